/- What functions of the program come to (f), that their calls come to just this (calls), and the plain laws over lists and numbers. No condition but those of the given row. -/
import Derived.Test.YtanhnhkcpbdfmaaGreatD2
set_option linter.unusedVariables false
set_option linter.unusedSimpArgs false
namespace Go.Proofs.YtanhnhkcpbdfmaaGreat.Q
open Go.RowKit Go.Proofs.YtanhnhkcpbdfmaaGreat.P Go.Proofs.YtanhnhkcpbdfmaaGreatW.PrintWords Go.Proofs.YtanhnhkcpbdfmaaGreatW.PrintMore
def stepTo (c : Int) : List S112 → Nat → Int
  | [], _ => -1
  | x :: r, j => if x.f1 = c then (j : Int) else stepTo c r (j + 1)
theorem stepTo_ev (l : List S112) (c : Int) (hl : l.length ≤ 4000000) : Ev (fun n => spec_l20Step.f n l c) (stepTo c l 0) := by
  have key : ∀ i, i ≤ l.length → Ev (fun n => spec_l20Step.l0 n l c (i : Int)) (stepTo c (l.drop i) i) := by
    refine down (n := l.length) ?_ ?_
    · refine Ev.step (fun n => by rw [spec_l20Step.l0]) (evn (by omega) (evs ?_))
      rw [drop_end]; rfl
    · intro i hi ih
      refine Ev.step (fun n => by rw [spec_l20Step.l0]) ?_
      refine evp (by omega) (evp (by omega) ?_)
      rw [rdS l i hi, drop_cons l i hi, stepTo]
      by_cases h : l[i].f1 = c
      · exact rpos h <| evp h (Ev.now _)
      · refine rneg h <| evn h ?_
        rw [w64 (by omega) (by omega)]
        exact ih
  exact key 0 (Nat.zero_le _)
theorem stepTo_lt (c : Int) (l : List S112) (j d : Nat) : (0 ≤ stepTo c l j ∧ stepTo c l j < ((j + d : Nat) : Int)) ↔ ∃ x ∈ l.take d, x.f1 = c := by
  induction l generalizing j d with
  | nil => simp [stepTo]
  | cons x r ih =>
    unfold stepTo
    cases d with
    | zero =>
      simp only [List.take_zero, List.not_mem_nil, false_and, exists_false, iff_false]
      by_cases h : x.f1 = c
      · rw [if_pos h]; omega
      · rw [if_neg h]
        have := ih (j + 1) 0
        simp at this
        have h1 := this
        intro h2
        have : ∀ (l : List S112) (j : Nat), stepTo c l j = -1 ∨ (j : Int) ≤ stepTo c l j := by
          intro l
          induction l with
          | nil => intro j; exact .inl rfl
          | cons y s ih2 =>
            intro j; unfold stepTo; split
            · exact .inr (Int.le_refl _)
            · rcases ih2 (j + 1) with h | h
              · exact .inl h
              · exact .inr (by omega)
        rcases this r (j + 1) with h3 | h3 <;> omega
    | succ d =>
      rw [List.take_succ_cons]
      by_cases h : x.f1 = c
      · rw [if_pos h]
        exact ⟨fun _ => ⟨x, List.mem_cons_self, h⟩, fun _ => ⟨by omega, by omega⟩⟩
      · rw [if_neg h]
        have := ih (j + 1) d
        rw [show j + 1 + d = j + (d + 1) by omega] at this
        rw [this]
        constructor
        · rintro ⟨y, hy, e⟩; exact ⟨y, List.mem_cons_of_mem _ hy, e⟩
        · rintro ⟨y, hy, e⟩
          rcases List.mem_cons.1 hy with rfl | hy
          · exact absurd e h
          · exact ⟨y, hy, e⟩
theorem tunedBy_len (l : List S112) (t : List Bool) : (P.tunedBy l t).length = t.length := by
  unfold P.tunedBy
  induction l generalizing t with
  | nil => rfl
  | cons x r ih => rw [List.foldl_cons, ih, List.length_set]
theorem tunedBy_get (l : List S112) (t : List Bool) (hin : ∀ x ∈ l, 0 ≤ x.f1) (c : Nat) (hc : c < t.length) : (P.tunedBy l t)[c]? = some (t[c] || l.any (fun x => decide (x.f1 = (c : Int)))) := by
  unfold P.tunedBy
  induction l generalizing t with
  | nil => simp [hc]
  | cons x r ih =>
    rw [List.foldl_cons, ih _ (fun y hy => hin y (List.mem_cons_of_mem _ hy)) (by simpa using hc)]
    have := hin x List.mem_cons_self
    simp only [List.any_cons, List.getElem_set]
    by_cases h : x.f1 = (c : Int)
    · rw [if_pos (by omega)]; simp [h]
    · rw [if_neg (by omega)]; simp [h]
theorem workOk_spec (p : List S112) (d : Int) (q : List Int) : Ev (fun n => spec_WorkOk.f n p d q) (workOk p d q) := by
  have jt : Ev (fun n => spec_WorkOk.j0 n true p d q) false := Ev.step (fun n => by rw [spec_WorkOk.j0]) (evp rfl (Ev.now _))
  unfold spec_WorkOk.f workOk
  refine evb (planSpec_eq p) ?_
  by_cases hp : planOk p = true
  rotate_left
  · rw [show planOk p = false by simpa using hp, Bool.false_and]; exact evn (by simp) jt
  refine evp hp (evb (l01In_eq _ _ _) ?_)
  rw [hp, Bool.true_and]
  by_cases hd : 0 ≤ d ∧ d ≤ (p.length : Int)
  rotate_left
  · rw [decide_eq_false hd, Bool.false_and]; exact evn (by simp) jt
  rw [decide_eq_true hd, Bool.true_and]
  refine evp rfl ?_
  by_cases hq : q.length = 12
  rotate_left
  · rw [decide_eq_false hq, Bool.false_and, show ((q.length : Int) != 12) = true by simpa using (show ¬ (q.length : Int) = 12 by omega)]; exact jt
  rw [decide_eq_true hq, Bool.true_and, show ((q.length : Int) != 12) = false by simpa using (show (q.length : Int) = 12 by omega)]
  have hl := planOk_len hp
  have hin := planOk_in hp
  obtain ⟨T, hT⟩ : ∃ T, P.tunedBy (p.take d.toNat) tuned0 = T := ⟨_, rfl⟩
  have hTl : T.length = 12 := by rw [← hT, tunedBy_len]; rfl
  have hTi : ∀ c : Nat, (hc : c < T.length) → T[c] = (decide (c = 0) || decide (0 ≤ stepTo (c : Int) p 0 ∧ stepTo (c : Int) p 0 < d)) := by
    intro c hc
    have h1 := tunedBy_get (p.take d.toNat) tuned0 (fun x hx => (hin x (List.mem_of_mem_take hx)).2.2.1) c (show c < 12 by omega)
    rw [hT, List.getElem?_eq_getElem hc] at h1
    rw [Option.some.inj h1]
    congr 1
    · have : ∀ c, (h : c < tuned0.length) → tuned0[c] = decide (c = 0) := by decide
      exact this c _
    · have h2 := stepTo_lt (c : Int) p 0 d.toNat
      rw [Nat.zero_add, Int.toNat_of_nonneg hd.1] at h2
      rw [Bool.eq_iff_iff, decide_eq_true_iff, h2]
      simp
  rw [hT]
  have key : ∀ i : Nat, i ≤ 12 → Ev (fun n => spec_WorkOk.l0 n (i : Int) p d q) (keyGo (T.drop i) (q.drop i)) := by
    refine down (n := 12) ?_ ?_
    · refine Ev.step (fun n => by rw [spec_WorkOk.l0]) (evn (by omega) (evs ?_))
      rw [List.drop_eq_nil_of_le (by omega)]; rfl
    · intro i hi ih
      refine Ev.step (fun n => by rw [spec_WorkOk.l0]) ?_
      refine evp (by omega) (Ev.bind (stepTo_ev p _ (by omega)) ?_)
      rw [rd_nat q i (by omega), drop_cons T i (by omega), drop_cons q i (by omega), keyGo, hTi i (by omega), w64 (n := (i : Int) + 1) (by omega) (by omega)]
      have fin : ∀ v : Bool, Ev (fun n => (spec_l18Pitch.f q[i]).bind fun t => if t = true then spec_WorkOk.l0 n (((i + 1 : Nat)) : Int) p d q else some false) (decide (1 ≤ q[i] ∧ q[i] ≤ 10000000) && keyGo (T.drop (i + 1)) (q.drop (i + 1))) := by
        intro v
        refine evb (pitch_eq _) ?_
        by_cases hf : fine q[i] = true
        · rw [show decide (1 ≤ q[i] ∧ q[i] ≤ 10000000) = true from hf, Bool.true_and]; exact evp hf ih
        · rw [show decide (1 ≤ q[i] ∧ q[i] ≤ 10000000) = false by simpa [fine] using hf, Bool.false_and]; exact evn hf (Ev.now _)
      have zer : Ev (fun n => if 0 ≤ (i : Int) then (if (i : Int) < (q.length : Int) then (if q[i] = 0 then spec_WorkOk.l0 n (((i + 1 : Nat)) : Int) p d q else some false) else none) else none) (decide (q[i] = 0) && keyGo (T.drop (i + 1)) (q.drop (i + 1))) := by
        refine evp (by omega) (evp (by omega) ?_)
        by_cases hz : q[i] = 0
        · rw [decide_eq_true hz, Bool.true_and]; exact evp hz ih
        · rw [decide_eq_false hz, Bool.false_and]; exact evn hz (Ev.now _)
      by_cases h0 : i = 0
      · refine evp (by omega) (evp (by omega) (evp (by omega) ?_))
        rw [decide_eq_true h0, Bool.true_or, if_pos rfl]
        exact fin true
      refine evn (by omega) ?_
      rw [decide_eq_false h0, Bool.false_or]
      by_cases h1 : 0 ≤ stepTo (i : Int) p 0
      rotate_left
      · rw [decide_eq_false (fun h => h1 h.1), if_neg (by simp)]; exact evn (by omega) zer
      refine evp (by omega) ?_
      by_cases h2 : stepTo (i : Int) p 0 < d
      · rw [decide_eq_true ⟨h1, h2⟩, if_pos rfl]; exact evp h2 (evp (by omega) (evp (by omega) (fin true)))
      · rw [decide_eq_false (fun h => h2 h.2), if_neg (by simp)]; exact evn h2 zer
  refine Ev.step (fun n => by rw [spec_WorkOk.j0]) (evn (by decide) ?_)
  exact key 0 (by omega)
theorem workImpl_eq (p : List S112) (d : Int) (q : List Int) : impl_WorkOk.f p d q = some (workOk p d q) := rfl
theorem workOk_plan {p : List S112} {d : Int} {q : List Int} (h : workOk p d q = true) : planOk p = true := by
  simp only [workOk, Bool.and_eq_true] at h; exact h.1
theorem workOk_done {p : List S112} {d : Int} {q : List Int} (h : workOk p d q = true) : 0 ≤ d ∧ d ≤ p.length := by
  simp only [workOk, Bool.and_eq_true, decide_eq_true_eq] at h; exact h.2.1
theorem workOk_len {p : List S112} {d : Int} {q : List Int} (h : workOk p d q = true) : q.length = 12 := by
  simp only [workOk, Bool.and_eq_true, decide_eq_true_eq] at h; exact h.2.2.1
theorem copyPlan_eq (p : List S112) (hp : p.length ≤ 4000000) : impl_copyPlan.f p = some p := by
  unfold impl_copyPlan.f; simp only [Option.bind_some]; rw [if_pos (by simp; omega)]; simp
theorem l19Copy_eq (p : List S112) (hp : p.length ≤ 4000000) : spec_l19Copy.f p = some p := by
  unfold spec_l19Copy.f; simp only [Option.bind_some]; rw [if_pos (by simp; omega)]; simp
theorem l02Copy_eq (p : List Int) (hp : p.length ≤ 4000000) : spec_l02Copy.f p = some p := by
  unfold spec_l02Copy.f; simp only [Option.bind_some]; rw [if_pos (by simp; omega)]; simp
theorem copyWork_eq (p : List S112) (d : Int) (q : List Int) (hp : p.length ≤ 4000000) (hq : q.length ≤ 4000000) : impl_copyWork.f p d q = some (p, d, q) := by
  unfold impl_copyWork.f; rw [copyPlan_eq p hp]; simp only [Option.bind_some]; rw [if_pos (by simp; omega)]; simp
theorem l36Copy_eq (p : List S112) (d : Int) (q : List Int) (hp : p.length ≤ 4000000) (hq : q.length ≤ 4000000) : spec_l36Copy.f p d q = some (p, d, q) := by
  unfold spec_l36Copy.f; rw [l19Copy_eq p hp]; simp only [Option.bind_some]; rw [l02Copy_eq q hq]; rfl
theorem copyShop_eq (p : List S112) (d : Int) (q : List Int) (a m : Int) (l : List S104) (hp : p.length ≤ 4000000) (hq : q.length ≤ 4000000) (hl : l.length ≤ 4000000) : impl_copyShop.f p d q a m l = some (p, d, q, a, m, l) := by
  unfold impl_copyShop.f; rw [copyWork_eq p d q hp hq, Option.bind_some, copyLog_eq l hl]; rfl
theorem l38Copy_eq (p : List S112) (d : Int) (q : List Int) (a m : Int) (l : List S104) (hp : p.length ≤ 4000000) (hq : q.length ≤ 4000000) (hl : l.length ≤ 4000000) : spec_l38Copy.f p d q a m l = some (p, d, q, a, m, l) := by
  unfold spec_l38Copy.f; rw [l36Copy_eq p d q hp hq, Option.bind_some, l34Copy_eq l hl]; rfl
def tuneAt (p : List S112) (q : List Int) (i : Nat) : Int := tunedPitch (q.getD (p.getD i z112).f0.toNat 0) (p.getD i z112).f2 (p.getD i z112).f3
theorem getS (p : List S112) (i : Nat) (hi : i < p.length) : p.getD i z112 = p[i] := by simp [List.getD_eq_getElem?_getD, hi]
theorem tunedBy_ev (p : List S112) (d : Int) (q : List Int) (i : Nat) (hp : planOk p = true) (hq : q.length = 12) (hi : i < p.length) : Ev (fun n => impl_tunedBy.f n p d q (i : Int)) (tuneAt p q i) := by
  obtain ⟨k0, k1, k2, k3, k4⟩ := planOk_in hp p[i] (List.getElem_mem hi)
  unfold impl_tunedBy.f tuneAt
  rw [getS p i hi, rdS p i hi]
  refine evp (by omega) (evp (by omega) (evp k0 (evp (by omega) (Ev.bind (tuned_impl _ _ _) (Ev.now _)))))
def cAct (x : S30) : S41 := ⟨x.f0, x.f1, x.f2, x.f3⟩
theorem rdA (l : List S41) (i : Nat) (h : i < l.length) : rd_T41 l (i : Int) = l[i] := by
  unfold rd_T41; simp [List.getD_eq_getElem?_getD, h]
theorem rdLA (l : List S30) (i : Nat) (h : i < l.length) : rd_T30 l (i : Int) = l[i] := by
  unfold rd_T30; simp [List.getD_eq_getElem?_getD, h]
theorem toActS_ev (l : List S30) (hl : l.length ≤ 1048576) : Ev (fun k => laws_toActS.f k l) (l.map cAct) := by
  have key : ∀ i, i ≤ l.length → ∀ acc : List S41, acc.length = l.length → Ev (fun k => laws_toActS.l0 k l acc (i : Int)) (acc.take i ++ (l.drop i).map cAct) := by
    refine down (n := l.length) ?_ ?_
    · intro acc ha
      refine Ev.step (fun k => by rw [laws_toActS.l0]) (evn (by omega) (evs ?_))
      rw [drop_end, List.map_nil, List.append_nil, List.take_of_length_le (by omega)]
    · intro i hi ih acc ha
      refine Ev.step (fun k => by rw [laws_toActS.l0]) (evp (by omega) (evp (by omega) ?_))
      rw [rdLA l i hi]
      refine evb (a := (l[i].f0, l[i].f1, l[i].f2, l[i].f3)) rfl (evp (by omega) ?_)
      rw [w64 (by omega) (by omega), Int.toNat_natCast]
      have := ih (acc.set i (cAct l[i])) (by simpa using ha)
      rw [set_take _ _ _ (by omega), List.append_assoc] at this
      rw [drop_cons l i hi, List.map_cons]
      exact this
  have := key 0 (Nat.zero_le _) (List.replicate l.length z41) (by simp)
  unfold laws_toActS.f
  refine evp (by omega) (evp (by omega) ?_)
  simpa using this
theorem eqAct_self (a b c d : Int) : laws_eqAct.f a b c d a b c d = some true := by unfold laws_eqAct.f; simp
theorem eqActS_ev (l : List S41) (hl : l.length ≤ 9000000000000000000) : Ev (fun k => laws_eqActS.f k l l) true := by
  have key : ∀ i, i ≤ l.length → Ev (fun k => laws_eqActS.l0 k l l (i : Int)) true := by
    refine down (n := l.length) ?_ ?_
    · refine Ev.step (fun k => by rw [laws_eqActS.l0]) (evn (by omega) ?_)
      exact Ev.now _
    · intro i hi ih
      refine Ev.step (fun k => by rw [laws_eqActS.l0]) (evp (by omega) (evp (by omega) (evp (by omega) ?_)))
      refine evb (eqAct_self _ _ _ _) (evp rfl ?_)
      rw [w64 (by omega) (by omega)]
      exact ih
  unfold laws_eqActS.f
  refine evp rfl ?_
  exact key 0 (Nat.zero_le _)
theorem szActS_eq (l : List S30) (m : Int) (h0 : 0 ≤ m) (hm : m ≤ 1048576) (hl : l.length ≤ 9223372036854775807) : laws_szActS.f l m = some (if m < l.length then -1 else m - l.length) := by
  unfold laws_szActS.f
  rw [w64 (by omega) (by omega)]
  by_cases h : m < l.length
  · rw [if_pos (by omega), if_pos h]
  · rw [if_neg (by omega), if_neg h]
def runsE (m : Int) (n : Nat) : List S104 := (List.range n).map (fun (j : Nat) => ⟨⟨m + 4 * j, m + 4 * j + 1⟩, m + 4 * j + 2, m + 4 * j + 3⟩)
theorem runsE_len (m : Int) (n : Nat) : (runsE m n).length = n := by simp [runsE]
theorem rdE_set_self (l : List S104) (i : Nat) (v : S104) (h : i < l.length) : rd_T104 (l.set i v) (i : Int) = v := by
  rw [rdE _ _ (by simpa using h)]; simp
theorem markEntryS_ev (l : List S104) (m : Int) (h0 : 0 ≤ m) (hm : m + 4 * l.length ≤ 4000000000000000000) : Ev (fun k => laws_markEntryS.f k l m) (m + 4 * l.length, runsE m l.length) := by
  have key : ∀ i, i ≤ l.length → ∀ acc : List S104, acc.length = l.length → acc.take i = runsE m i → Ev (fun k => laws_markEntryS.l0 k acc (m + 4 * i) (i : Int)) (m + 4 * l.length, runsE m l.length) := by
    refine down (n := l.length) ?_ ?_
    · intro acc ha ht
      refine Ev.step (fun k => by rw [laws_markEntryS.l0]) (evn (by omega) (evs ?_))
      rw [← ht, List.take_of_length_le (by omega)]
    · intro i hi ih acc ha ht
      refine Ev.step (fun k => by rw [laws_markEntryS.l0]) ?_
      refine evp (by omega) (evp (by omega) ?_)
      simp only [Option.bind_some]
      rw [w64 (n := m + 4 * i + 1) (by omega) (by omega), w64 (n := m + 4 * i + 1 + 1) (by omega) (by omega), w64 (n := m + 4 * i + 1 + 1 + 1) (by omega) (by omega), w64 (n := m + 4 * i + 1 + 1 + 1 + 1) (by omega) (by omega), w64 (n := (i : Int) + 1) (by omega) (by omega), Int.toNat_natCast]
      have := ih (acc.set i ⟨⟨m + 4 * i, m + 4 * i + 1⟩, m + 4 * i + 2, m + 4 * i + 3⟩) (by simpa using ha) (by
        rw [set_take _ _ _ (by omega), ht]
        simp [runsE, List.range_succ])
      have rs : ∀ (L : List S104) (v : S104), L.length = l.length → rd_T104 (L.set i v) (i : Int) = v := fun L v hL => rdE_set_self L i v (by omega)
      simp only [rs _ _ ha, List.set_set]
      rw [show m + 4 * (i : Int) + 1 + 1 = m + 4 * i + 2 by omega, show m + 4 * (i : Int) + 2 + 1 = m + 4 * i + 3 by omega, show m + 4 * (i : Int) + 3 + 1 = m + 4 * ((i + 1 : Nat) : Int) by omega]
      exact this
  have := key 0 (Nat.zero_le _) l rfl (by simp [runsE])
  unfold laws_markEntryS.f
  simpa using this
theorem heldEntryS_ev (n : Nat) (m : Int) (h0 : 0 ≤ m) (hm : m + 4 * n ≤ 4000000000000000000) : Ev (fun k => laws_heldEntryS.f k (runsE m n) m) (m + 4 * n) := by
  have key : ∀ i, i ≤ n → Ev (fun k => laws_heldEntryS.l0 k (runsE m n) (m + 4 * i) (i : Int)) (m + 4 * n) := by
    refine down (n := n) ?_ ?_
    · exact Ev.step (fun k => by rw [laws_heldEntryS.l0]) (evn (by rw [runsE_len]; omega) (evs rfl))
    · intro i hi ih
      refine Ev.step (fun k => by rw [laws_heldEntryS.l0]) (evp (by rw [runsE_len]; omega) (evp (by omega) ?_))
      rw [rdE _ _ (by rw [runsE_len]; exact hi), show (runsE m n)[i]'(by rw [runsE_len]; exact hi) = ⟨⟨m + 4 * i, m + 4 * i + 1⟩, m + 4 * i + 2, m + 4 * i + 3⟩ by simp [runsE]]
      rw [w64 (n := m + 4 * i + 1) (by omega) (by omega), w64 (n := m + 4 * i + 1 + 1) (by omega) (by omega), w64 (n := m + 4 * i + 1 + 1 + 1) (by omega) (by omega), w64 (n := m + 4 * i + 1 + 1 + 1 + 1) (by omega) (by omega), w64 (n := (i : Int) + 1) (by omega) (by omega)]
      refine evp rfl (evp rfl (evp ?_ (evp ?_ ?_)))
      · show m + 4 * (i : Int) + 2 = _; omega
      · show m + 4 * (i : Int) + 3 = _; omega
      rw [show m + 4 * (i : Int) + 1 + 1 + 1 + 1 = m + 4 * ((i + 1 : Nat) : Int) by omega]
      exact ih
  have := key 0 (Nat.zero_le _)
  unfold laws_heldEntryS.f
  simpa using this
def runsA (m : Int) (n : Nat) : List S41 := (List.range n).map (fun (j : Nat) => ⟨m + 4 * j, m + 4 * j + 1, m + 4 * j + 2, m + 4 * j + 3⟩)
theorem rdA_set_self (l : List S41) (i : Nat) (v : S41) (h : i < l.length) : rd_T41 (l.set i v) (i : Int) = v := by
  rw [rdA _ _ (by simpa using h)]; simp
theorem markActS_ev (l : List S41) (m : Int) (h0 : 0 ≤ m) (hm : m + 4 * l.length ≤ 4000000000000000000) : Ev (fun k => laws_markActS.f k l m) (m + 4 * l.length, runsA m l.length) := by
  have key : ∀ i, i ≤ l.length → ∀ acc : List S41, acc.length = l.length → acc.take i = runsA m i → Ev (fun k => laws_markActS.l0 k acc (m + 4 * i) (i : Int)) (m + 4 * l.length, runsA m l.length) := by
    refine down (n := l.length) ?_ ?_
    · intro acc ha ht
      refine Ev.step (fun k => by rw [laws_markActS.l0]) (evn (by omega) (evs ?_))
      rw [← ht, List.take_of_length_le (by omega)]
    · intro i hi ih acc ha ht
      refine Ev.step (fun k => by rw [laws_markActS.l0]) ?_
      refine evp (by omega) (evp (by omega) ?_)
      simp only [Option.bind_some]
      rw [w64 (n := m + 4 * i + 1) (by omega) (by omega), w64 (n := m + 4 * i + 1 + 1) (by omega) (by omega), w64 (n := m + 4 * i + 1 + 1 + 1) (by omega) (by omega), w64 (n := m + 4 * i + 1 + 1 + 1 + 1) (by omega) (by omega), w64 (n := (i : Int) + 1) (by omega) (by omega), Int.toNat_natCast]
      have := ih (acc.set i ⟨m + 4 * i, m + 4 * i + 1, m + 4 * i + 2, m + 4 * i + 3⟩) (by simpa using ha) (by
        rw [set_take _ _ _ (by omega), ht]
        simp [runsA, List.range_succ])
      have rs : ∀ (L : List S41) (v : S41), L.length = l.length → rd_T41 (L.set i v) (i : Int) = v := fun L v hL => rdA_set_self L i v (by omega)
      simp only [rs _ _ ha, List.set_set]
      rw [show m + 4 * (i : Int) + 1 + 1 = m + 4 * i + 2 by omega, show m + 4 * (i : Int) + 2 + 1 = m + 4 * i + 3 by omega, show m + 4 * (i : Int) + 3 + 1 = m + 4 * ((i + 1 : Nat) : Int) by omega]
      exact this
  have := key 0 (Nat.zero_le _) l rfl (by simp [runsA])
  unfold laws_markActS.f
  simpa using this
end Go.Proofs.YtanhnhkcpbdfmaaGreat.Q
namespace Go.Proofs.YtanhnhkcpbdfmaaGreat.P
set_option maxHeartbeats 8000000
set_option maxRecDepth 100000
set_option synthInstance.maxHeartbeats 400000
set_option synthInstance.maxSize 100000
open Go.RowKit Go.Proofs.YtanhnhkcpbdfmaaGreatW.PrintWords Go.Proofs.YtanhnhkcpbdfmaaGreatW.PrintLast Go.Proofs.YtanhnhkcpbdfmaaGreatW.PrintMore Go.Proofs.YtanhnhkcpbdfmaaGreat.V
attribute [local go_sem] cell_b frozen_b
attribute [local go_sem] max2_int min2_int max_two min_two max_three min_three max_four min_four
def laws_toShop.f (k : Nat) (l0_0 : List (S140)) (a0_1 : Int) (l0_2 : List Int) (a0_3 : Int) (a0_4 : Int) (l0_5 : List (S127)) : Option ((List (S112)) × Int × List Int × Int × Int × (List (S104))) := (laws_toWork.f k l0_0 a0_1 l0_2).bind fun bt579 => ((laws_toEntryS.f k l0_5).bind fun t586 => (some (bt579.1, bt579.2.1, bt579.2.2, a0_3, a0_4, t586)))
theorem laws_toShop.calls (k : Nat) (A0_0 : Option Addr) (c0_0 : Nat) (l0_0 : List (S140)) (a0_1 : Int) (A0_2 : Option Addr) (c0_2 : Nat) (l0_2 : List Int) (a0_3 : Int) (a0_4 : Int) (A0_5 : Option Addr) (c0_5 : Nat) (l0_5 : List (S127)) (r1 : List (S112)) (r2 : Int) (r3 : List Int) (r4 : Int) (r5 : Int) (r6 : List (S104)) (w : World) (hr0_0 : Kd.C k140 w A0_0 l0_0.length l0_0) (hc0_0 : l0_0.length ≤ c0_0) (hr0_2 : Kd.C (Kd.int .i64) w A0_2 l0_2.length l0_2) (hc0_2 : l0_2.length ≤ c0_2) (hr0_5 : Kd.C k127 w A0_5 l0_5.length l0_5) (hc0_5 : l0_5.length ≤ c0_5) (h : laws_toShop.f k l0_0 a0_1 l0_2 a0_3 a0_4 l0_5 = some (r1, r2, r3, r4, r5, r6)) :
  Calls Tryz.prog 11 #[.agg #[.slice A0_0 l0_0.length c0_0, .int .i64 a0_1, .slice A0_2 l0_2.length c0_2, .int .i64 a0_3, .int .i64 a0_4, .slice A0_5 l0_5.length c0_5]] w fun e w' => ∃ v0_ v2_ v5_ : Value, e = .returned (.agg #[v0_, .int .i64 r2, v2_, .int .i64 r4, .int .i64 r5, v5_]) ∧ Kd.R k112 112 w' w.heap.size (fun _ => True) v0_ r1 ∧ Kd.R (Kd.int .i64) 3 w' w.heap.size (fun _ => True) v2_ r3 ∧ Kd.R k104 104 w' w.heap.size (fun _ => True) v5_ r6 ∧ Below w.heap.size w w' := by
 replace hr0_0 := RdE.mk hr0_0
 replace hc0_0 := LeI.mk hc0_0
 replace hr0_2 := RdE.mk hr0_2
 replace hc0_2 := LeI.mk hc0_2
 replace hr0_5 := RdE.mk hr0_5
 replace hc0_5 := LeI.mk hc0_5
 unfold laws_toShop.f at h
 have hu28 := Tryz.underlying28
 have hu37 := Tryz.underlying37
 (repeat' first | ((with_reducible replace h := ite_some h); rcases h with ⟨hc, h⟩ | ⟨hc, h⟩ <;> first | exact (none_some h).elim | exact absurd hc (by decide) | subst hc | (replace hc := hF_ hc; subst hc) | (have hd := hI_ hc; have he := hJ_ hc; clear hc) | (have hd := hK_ hc; have he := hL_ hc) | (have hd := decide_eq_false hc) | (have hd := decide_eq_true hc) | skip))
 all_goals go_enter Tryz.func11, Tryz.ntmps11
 all_goals go_wp2_with ((first
  | ((with_reducible refine gate_dst (N := 1) rfl ?_); refine bV #[.slice A0_0 l0_0.length c0_0, .int .i64 a0_1, .slice A0_2 l0_2.length c0_2, .int .i64 a0_3, .int .i64 a0_4, .slice A0_5 l0_5.length c0_5] 28 fun g w1 j1 j2 j3 => ?_)
  | ((with_reducible refine gate_dst (N := 2) rfl ?_); refine bV #[.slice none 0 0, .int .i64 0, .slice none 0 0, .int .i64 0, .int .i64 0, .slice none 0 0] 37 fun g w1 j1 j2 j3 => ?_)
  | ((with_reducible refine gate_dst (N := 3) rfl ?_); refine bV #[.slice none 0 0, .int .i64 0, .slice none 0 0, .int .i64 0, .int .i64 0, .slice none 0 0] 37 fun g w1 j1 j2 j3 => ?_)
  | (go_at_call 54; replace h := bI h; obtain ⟨⟨t1, t2, t3⟩, A, h⟩ := h; (try dsimp only at h); refine (laws_toWork.calls _ _ _ _ _ _ _ _ _ _ _ _ Rd.out LeI.out Rd.out LeI.out A).mono ?_; rintro e w2 ⟨v0, v1, rfl, ho0, ho1, hb⟩; obtain ⟨B0, b0, rfl, j0, q0⟩ := rowS ho0; obtain ⟨B1, b1, rfl, j1, q1⟩ := rowS ho1; have jb := Bel.mk hb; clear A ho0 ho1 hb)
  | (go_at_call 55; replace h := bI h; obtain ⟨t, A, h⟩ := h; (try dsimp only at h); refine (laws_toEntryS.calls _ _ _ _ _ _ Rd.out LeI.out A).mono ?_; rintro e w2 ⟨v0, rfl, ho0, hb⟩; obtain ⟨B0, b0, rfl, j0, q0⟩ := rowS ho0; have jb := Bel.mk hb; clear A ho0 hb)); (repeat' first | ((with_reducible replace h := ite_some h); rcases h with ⟨hc, h⟩ | ⟨hc, h⟩ <;> first | exact (none_some h).elim | exact absurd hc (by decide) | subst hc | (replace hc := hF_ hc; subst hc) | (have hd := hI_ hc; have he := hJ_ hc; clear hc) | (have hd := hK_ hc; have he := hL_ hc) | (have hd := decide_eq_false hc) | (have hd := decide_eq_true hc) | skip)); all_goals (try have hn : decide (0 < t.length) = true := decide_eq_true (by omega)); all_goals (try have hn : decide (0 < t.length) = false := decide_eq_false (by omega)))
 all_goals simp only [Option.some.injEq, Prod.mk.injEq] at h
 all_goals obtain ⟨rfl, rfl, rfl, rfl, rfl, rfl⟩ := h
 all_goals refine bodyPost_ret (results_cell_row rfl _ _ _ _ _ (0, 0) _ rfl Blk.out Tryz.underlying37 rfl (by kernel_rfl)) rfl ?_
 all_goals exact ⟨_, _, _, rfl, (by first | exact rowFin | exact Kd.R_nil _ _ _ _ _), (by first | exact rowFin | exact Kd.R_nil _ _ _ _ _), (by first | exact rowFin | exact Kd.R_nil _ _ _ _ _), From.out⟩
def laws_eqWork.f (k : Nat) (l0_0 : List (S112)) (a0_1 : Int) (l0_2 : List Int) (l1_0 : List (S112)) (a1_1 : Int) (l1_2 : List Int) : Option (Bool) := (laws_eqStepS.f k l0_0 l1_0).bind fun t1024 => (if t1024 = true then (if a0_1 = a1_1 then ((laws_eqIntS.f k l0_2 l1_2).bind fun t1025 => (if t1025 = true then (some true) else (some false))) else (some false)) else (some false))
theorem laws_eqWork.calls (k : Nat) (A0_0 : Option Addr) (c0_0 : Nat) (l0_0 : List (S112)) (a0_1 : Int) (A0_2 : Option Addr) (c0_2 : Nat) (l0_2 : List Int) (A1_0 : Option Addr) (c1_0 : Nat) (l1_0 : List (S112)) (a1_1 : Int) (A1_2 : Option Addr) (c1_2 : Nat) (l1_2 : List Int) (r : Bool) (w : World) (hr0_0 : Kd.C k112 w A0_0 l0_0.length l0_0) (hc0_0 : l0_0.length ≤ c0_0) (hr0_2 : Kd.C (Kd.int .i64) w A0_2 l0_2.length l0_2) (hc0_2 : l0_2.length ≤ c0_2) (hr1_0 : Kd.C k112 w A1_0 l1_0.length l1_0) (hc1_0 : l1_0.length ≤ c1_0) (hr1_2 : Kd.C (Kd.int .i64) w A1_2 l1_2.length l1_2) (hc1_2 : l1_2.length ≤ c1_2) (h : laws_eqWork.f k l0_0 a0_1 l0_2 l1_0 a1_1 l1_2 = some r) :
  Calls Tryz.prog 63 #[.agg #[.slice A0_0 l0_0.length c0_0, .int .i64 a0_1, .slice A0_2 l0_2.length c0_2], .agg #[.slice A1_0 l1_0.length c1_0, .int .i64 a1_1, .slice A1_2 l1_2.length c1_2]] w fun e w' => e = .returned (.bool r) ∧ Below w.heap.size w w' := by
 replace hr0_0 := RdE.mk hr0_0
 replace hc0_0 := LeI.mk hc0_0
 replace hr0_2 := RdE.mk hr0_2
 replace hc0_2 := LeI.mk hc0_2
 replace hr1_0 := RdE.mk hr1_0
 replace hc1_0 := LeI.mk hc1_0
 replace hr1_2 := RdE.mk hr1_2
 replace hc1_2 := LeI.mk hc1_2
 unfold laws_eqWork.f at h
 have hu34 := Tryz.underlying34
 (repeat' first | ((with_reducible replace h := ite_some h); rcases h with ⟨hc, h⟩ | ⟨hc, h⟩ <;> first | exact (none_some h).elim | exact absurd hc (by decide) | subst hc | (replace hc := hF_ hc; subst hc) | (have hd := hI_ hc; have he := hJ_ hc; clear hc) | (have hd := hK_ hc; have he := hL_ hc) | (have hd := decide_eq_false hc) | (have hd := decide_eq_true hc) | skip))
 all_goals go_enter Tryz.func63, Tryz.ntmps63
 all_goals go_wp2_with ((first
  | ((with_reducible refine gate_dst (N := 2) rfl ?_); refine bV #[.slice A0_0 l0_0.length c0_0, .int .i64 a0_1, .slice A0_2 l0_2.length c0_2] 34 fun g w1 j1 j2 j3 => ?_)
  | ((with_reducible refine gate_dst (N := 3) rfl ?_); refine bV #[.slice A1_0 l1_0.length c1_0, .int .i64 a1_1, .slice A1_2 l1_2.length c1_2] 34 fun g w1 j1 j2 j3 => ?_)
  | (go_at_call 111; replace h := bI h; obtain ⟨t, A, h⟩ := h; (try dsimp only at h); refine (laws_eqStepS.calls _ _ _ _ _ _ _ _ _ Rd.out LeI.out Rd.out LeI.out A).mono ?_; rintro e w2 ⟨rfl, hb⟩; have jb := Bel.mk hb; clear A hb)
  | (go_at_call 21; replace h := bI h; obtain ⟨t, A, h⟩ := h; (try dsimp only at h); refine (laws_eqIntS.calls _ _ _ _ _ _ _ _ _ Rd.out LeI.out Rd.out LeI.out A).mono ?_; rintro e w2 ⟨rfl, n, rfl⟩; clear A)); (repeat' first | ((with_reducible replace h := ite_some h); rcases h with ⟨hc, h⟩ | ⟨hc, h⟩ <;> first | exact (none_some h).elim | exact absurd hc (by decide) | subst hc | (replace hc := hF_ hc; subst hc) | (have hd := hI_ hc; have he := hJ_ hc; clear hc) | (have hd := hK_ hc; have he := hL_ hc) | (have hd := decide_eq_false hc) | (have hd := decide_eq_true hc) | skip)))
 all_goals obtain rfl := Option.some.inj h
 all_goals go_ret
 all_goals exact ⟨rfl, From.out⟩
def laws_eqShop.f (k : Nat) (l0_0 : List (S112)) (a0_1 : Int) (l0_2 : List Int) (a0_3 : Int) (a0_4 : Int) (l0_5 : List (S104)) (l1_0 : List (S112)) (a1_1 : Int) (l1_2 : List Int) (a1_3 : Int) (a1_4 : Int) (l1_5 : List (S104)) : Option (Bool) := (laws_eqWork.f k l0_0 a0_1 l0_2 l1_0 a1_1 l1_2).bind fun t1036 => (if t1036 = true then (if a0_3 = a1_3 then (if a0_4 = a1_4 then ((laws_eqEntryS.f k l0_5 l1_5).bind fun t1037 => (if t1037 = true then (some true) else (some false))) else (some false)) else (some false)) else (some false))
theorem laws_eqShop.calls (k : Nat) (A0_0 : Option Addr) (c0_0 : Nat) (l0_0 : List (S112)) (a0_1 : Int) (A0_2 : Option Addr) (c0_2 : Nat) (l0_2 : List Int) (a0_3 : Int) (a0_4 : Int) (A0_5 : Option Addr) (c0_5 : Nat) (l0_5 : List (S104)) (A1_0 : Option Addr) (c1_0 : Nat) (l1_0 : List (S112)) (a1_1 : Int) (A1_2 : Option Addr) (c1_2 : Nat) (l1_2 : List Int) (a1_3 : Int) (a1_4 : Int) (A1_5 : Option Addr) (c1_5 : Nat) (l1_5 : List (S104)) (r : Bool) (w : World) (hr0_0 : Kd.C k112 w A0_0 l0_0.length l0_0) (hc0_0 : l0_0.length ≤ c0_0) (hr0_2 : Kd.C (Kd.int .i64) w A0_2 l0_2.length l0_2) (hc0_2 : l0_2.length ≤ c0_2) (hr0_5 : Kd.C k104 w A0_5 l0_5.length l0_5) (hc0_5 : l0_5.length ≤ c0_5) (hr1_0 : Kd.C k112 w A1_0 l1_0.length l1_0) (hc1_0 : l1_0.length ≤ c1_0) (hr1_2 : Kd.C (Kd.int .i64) w A1_2 l1_2.length l1_2) (hc1_2 : l1_2.length ≤ c1_2) (hr1_5 : Kd.C k104 w A1_5 l1_5.length l1_5) (hc1_5 : l1_5.length ≤ c1_5) (h : laws_eqShop.f k l0_0 a0_1 l0_2 a0_3 a0_4 l0_5 l1_0 a1_1 l1_2 a1_3 a1_4 l1_5 = some r) :
  Calls Tryz.prog 14 #[.agg #[.slice A0_0 l0_0.length c0_0, .int .i64 a0_1, .slice A0_2 l0_2.length c0_2, .int .i64 a0_3, .int .i64 a0_4, .slice A0_5 l0_5.length c0_5], .agg #[.slice A1_0 l1_0.length c1_0, .int .i64 a1_1, .slice A1_2 l1_2.length c1_2, .int .i64 a1_3, .int .i64 a1_4, .slice A1_5 l1_5.length c1_5]] w fun e w' => e = .returned (.bool r) ∧ Below w.heap.size w w' := by
 replace hr0_0 := RdE.mk hr0_0
 replace hc0_0 := LeI.mk hc0_0
 replace hr0_2 := RdE.mk hr0_2
 replace hc0_2 := LeI.mk hc0_2
 replace hr0_5 := RdE.mk hr0_5
 replace hc0_5 := LeI.mk hc0_5
 replace hr1_0 := RdE.mk hr1_0
 replace hc1_0 := LeI.mk hc1_0
 replace hr1_2 := RdE.mk hr1_2
 replace hc1_2 := LeI.mk hc1_2
 replace hr1_5 := RdE.mk hr1_5
 replace hc1_5 := LeI.mk hc1_5
 unfold laws_eqShop.f at h
 have hu37 := Tryz.underlying37
 (repeat' first | ((with_reducible replace h := ite_some h); rcases h with ⟨hc, h⟩ | ⟨hc, h⟩ <;> first | exact (none_some h).elim | exact absurd hc (by decide) | subst hc | (replace hc := hF_ hc; subst hc) | (have hd := hI_ hc; have he := hJ_ hc; clear hc) | (have hd := hK_ hc; have he := hL_ hc) | (have hd := decide_eq_false hc) | (have hd := decide_eq_true hc) | skip))
 all_goals go_enter Tryz.func14, Tryz.ntmps14
 all_goals go_wp2_with ((first
  | ((with_reducible refine gate_dst (N := 2) rfl ?_); refine bV #[.slice A0_0 l0_0.length c0_0, .int .i64 a0_1, .slice A0_2 l0_2.length c0_2, .int .i64 a0_3, .int .i64 a0_4, .slice A0_5 l0_5.length c0_5] 37 fun g w1 j1 j2 j3 => ?_)
  | ((with_reducible refine gate_dst (N := 3) rfl ?_); refine bV #[.slice A1_0 l1_0.length c1_0, .int .i64 a1_1, .slice A1_2 l1_2.length c1_2, .int .i64 a1_3, .int .i64 a1_4, .slice A1_5 l1_5.length c1_5] 37 fun g w1 j1 j2 j3 => ?_)
  | (go_at_call 63; replace h := bI h; obtain ⟨t, A, h⟩ := h; (try dsimp only at h); refine (laws_eqWork.calls _ _ _ _ _ _ _ _ _ _ _ _ _ _ _ _ _ Rd.out LeI.out Rd.out LeI.out Rd.out LeI.out Rd.out LeI.out A).mono ?_; rintro e w2 ⟨rfl, hb⟩; have jb := Bel.mk hb; clear A hb)
  | (go_at_call 64; replace h := bI h; obtain ⟨t, A, h⟩ := h; (try dsimp only at h); refine (laws_eqEntryS.calls _ _ _ _ _ _ _ _ _ Rd.out LeI.out Rd.out LeI.out A).mono ?_; rintro e w2 ⟨rfl, hb⟩; have jb := Bel.mk hb; clear A hb)); (repeat' first | ((with_reducible replace h := ite_some h); rcases h with ⟨hc, h⟩ | ⟨hc, h⟩ <;> first | exact (none_some h).elim | exact absurd hc (by decide) | subst hc | (replace hc := hF_ hc; subst hc) | (have hd := hI_ hc; have he := hJ_ hc; clear hc) | (have hd := hK_ hc; have he := hL_ hc) | (have hd := decide_eq_false hc) | (have hd := decide_eq_true hc) | skip)))
 all_goals obtain rfl := Option.some.inj h
 all_goals go_ret
 all_goals exact ⟨rfl, From.out⟩
end Go.Proofs.YtanhnhkcpbdfmaaGreat.P
namespace Go.Proofs.YtanhnhkcpbdfmaaGreat.V
open Go.RowKit Go.Proofs.YtanhnhkcpbdfmaaGreatW.PrintWords
class CelR (W : World) (a : Addr) (v : outParam Value) : Prop where out : W.cell? a = some v
class FarA (a : Addr) (g : Nat) : Prop where out : a.block ≠ g
section
variable {w w0 W : World} {a : Addr} {v u : Value} {o : Obj} {n g i : Nat}
theorem celR_lt (h : CelR W a v) : a.block < W.heap.size := World.block_lt_of_cell? W a h.out
instance [h : CelR W a v] : CelR (W.alloc o) a v := ⟨((below_alloc (RowKit.Below.refl W.heap.size W) o).cell (celR_lt h)).trans h.out⟩
instance [h : CelR W a v] : CelR W.drew a v := ⟨h.out⟩
instance [h : CelR W a v] : CelR (W.drewN n) a v := ⟨h.out⟩
instance [b : Bel w W] [h : CelR w a v] : CelR W a v := ⟨(b.out.cell (celR_lt h)).trans h.out⟩
instance [b : Sin w0 W] [h : CelR w0 a v] : CelR W a v := ⟨(b.out.cell (celR_lt h)).trans h.out⟩
instance [h : Born W g] [k : CelR W a v] : FarA a g := ⟨by rw [h.out]; exact Nat.ne_of_lt (celR_lt k)⟩
instance [h : CelR W a v] [k : FarA a g] : CelR (W.setCell ⟨g, i, none⟩ u) a v := ⟨(cell_far k.out u).trans h.out⟩
theorem cellR_c (W : World) (a : Addr) {v : Value} [h : CelR W a v] : W.cell? a = some v := h.out
end
class InR (w1 w2 : outParam World) (g : Nat) : Prop where out : w1.heap.size ≤ g ∧ g < w2.heap.size
class IRow (e : outParam Nat) (w1 : outParam World) (W : World) (g : Nat) (c : outParam Nat) (xs : outParam (List Int)) : Prop where out : (Kd.int .i64).R e W w1.heap.size (fun _ => True) (.slice (some ⟨g, 0, none⟩) xs.length c) xs
class At {α : Type} (d : Kd α) (e : outParam Nat) (w1 : outParam World) (W : World) (A : Option Addr) (c : outParam Nat) (xs : outParam (List α)) : Prop where out : d.R e W w1.heap.size (fun _ => True) (.slice A xs.length c) xs
class IxIn (i : Int) (xs : List Int) : Prop where out : 0 ≤ i ∧ i < xs.length
class CelE (w0 : outParam World) (a : Addr) (v : outParam Value) : Prop where out : w0.cell? a = some v
class NeT {α : Type} (d : Kd α) (e t : Nat) : Prop where out : ∀ q, q ∈ e :: d.E → q ≠ t
section
variable {w0 w1 w2 a b w W : World} {g g' e c i n t B : Nat} {A : Option Addr} {xs ys : List Int} {v : Int} {u : Value} {o : Obj} {cs : Array Value}
instance [h : RowE (Kd.int .i64) e w1 w2 (some ⟨g, 0, none⟩) c xs] : InR w1 w2 g := ⟨by
  have := (Kd.R_bound h.out).1 g (by simp [Value.ownBlock])
  exact ⟨this.2.1, this.2.2.1⟩⟩
instance [h : InR w1 w2 g] [k : Off w1 w2 g'] : NeB g' g := ⟨by have := h.out; have := k.out; omega⟩
instance [h : InR w1 w2 g] [k : Off w1 w2 g'] : NeB g g' := ⟨by have := h.out; have := k.out; omega⟩
instance [h : InR w1 w2 g] [k : Sz w0 w1] : Nw w0 g := ⟨Nat.le_trans k.out h.out.1⟩
instance [h : InR w1 w2 g] [k : Dis w1 w2 a b] : Off a b g := ⟨by have := h.out; have := k.out; omega⟩
instance [h : RowE (Kd.int .i64) e w1 w2 (some ⟨g, 0, none⟩) c xs] [k : Keep w1 w2 W] : IRow e w1 W g c xs := ⟨row_ (h := h) (k := k)⟩
instance [h : IRow e w1 W g c xs] : IRow e w1 (W.alloc o) g c xs := ⟨Kd.R_alloc h.out o⟩
instance [h : IRow e w1 W g c xs] : IRow e w1 W.drew g c xs := ⟨Kd.R_drew h.out⟩
instance [h : IRow e w1 W g c xs] : IRow e w1 (W.drewN n) g c xs := ⟨Kd.R_drewN h.out n⟩
instance [k : Bel w W] [h : IRow e w1 w g c xs] : IRow e w1 W g c xs := ⟨Kd.R_below h.out k.out⟩
instance [k : Sin w W] [h : IRow e w1 w g c xs] : IRow e w1 W g c xs := ⟨Kd.R_below h.out k.out⟩
instance [h : IRow e w1 W g c xs] : IRow e w1 (W.setCell ⟨g, i, none⟩ (.int .i64 v)) g c (xs.set i v) := ⟨by
  have := Kd.R_putn h.out (i : Int) v
  rw [List.length_set]
  exact this⟩
instance [h : IRow e w1 W g c xs] [k : NeB g g'] : IRow e w1 (W.setCell ⟨g', i, none⟩ u) g c xs := ⟨Kd.R_mono (Kd.R_far (p := ⟨g', i, none⟩) (ok := fun k => k = g) (Kd.R_of_own (Kd.own_of_R h.out) (fun k hk => by simp [Value.ownBlock] at hk; exact hk.symm)) (fun j hj => by rw [hj]; exact k.out) u) (fun _ _ => trivial)⟩
theorem cell_r (W : World) (g : Nat) (i : Int) [h : IRow e w1 W g c xs] [k : IxIn i xs] : W.cell? ⟨g, i.toNat, none⟩ = some (.int .i64 (rd xs i)) := (Kd.R_celln 0 h.out i k.out.1 k.out.2).1
theorem frozen_r (W : World) (g : Nat) (i : Int) [h : IRow e w1 W g c xs] [k : IxIn i xs] : W.frozen? ⟨g, i.toNat, none⟩ = false := (Kd.R_celln 0 h.out i k.out.1 k.out.2).2
theorem cell_r0 (W : World) (g : Nat) [h : IRow e w1 W g c xs] [k : IxIn 0 xs] : W.cell? ⟨g, 0, none⟩ = some (.int .i64 (rd xs 0)) := cell_r W g 0
theorem frozen_r0 (W : World) (g : Nat) [h : IRow e w1 W g c xs] [k : IxIn 0 xs] : W.frozen? ⟨g, 0, none⟩ = false := frozen_r W g 0
theorem form_ {i : Int} (j : RowE (Kd.int .i64) e w1 w2 A c xs) (h0 : 0 ≤ i) (h1 : i < (xs.length : Int)) : ∃ g, A = some ⟨g, 0, none⟩ ∧ IxIn i xs := by
  obtain ⟨g, c', h, _⟩ := Kd.R_form j.out (by omega)
  injection h with h _ _
  exact ⟨g, h, ⟨⟨h0, h1⟩⟩⟩
theorem atI_ {i : Int} (j : RdE (Kd.int .i64) w0 A xs) (h0 : 0 ≤ i) (h1 : i < (xs.length : Int)) : ∃ ad, A = some ad ∧ CelE w0 (ad.add i.toNat) (.int .i64 (rd xs i)) := by
  obtain ⟨ad, e, h⟩ := Kd.at_int j.out i h0 h1
  exact ⟨ad, e, ⟨h⟩⟩
instance {p : Addr} [h : CelE w0 p u] [k : From w0 W] : CelR W p u := ⟨(k.out.cell (World.block_lt_of_cell? w0 p h.out)).trans h.out⟩
theorem bind_set_ {β : Type} {i : Nat} {f : List Int → Option β} {r : β} (h : (some (xs.set i v)).bind f = some r) : xs.length = (xs.set i v).length ∧ f (xs.set i v) = some r := ⟨(List.length_set ..).symm, h⟩
instance [h : LeI xs.length c] : LeI (xs.set i v).length c := ⟨by rw [List.length_set]; exact h.out⟩
theorem irowFin [h : IRow e w1 W g c xs] [l : From w w1] : (Kd.int .i64).R e W w.heap.size (fun _ => True) (.slice (some ⟨g, 0, none⟩) xs.length c) xs := Kd.R_lower h.out l.out.size
theorem irowFin' {m : Nat} [h : IRow e w1 W g c xs] [l : From w w1] (hm : m = xs.length) : (Kd.int .i64).R e W w.heap.size (fun _ => True) (.slice (some ⟨g, 0, none⟩) m c) xs := by rw [hm]; exact irowFin
instance [h : IRow e w1 W g c xs] : Rd (Kd.int .i64) W (some ⟨g, 0, none⟩) xs := ⟨(Kd.R_reads' h.out).2.2⟩
section
variable {α : Type} {d : Kd α} {zs : List α} {c' : Nat}
instance [h : RowE d t w1 w2 A c zs] [k : Keep w1 w2 W] [l : IRow e w W g c' ys] [m : NeT d t e] : At d t w1 (W.setCell ⟨g, i, none⟩ (.int .i64 v)) A c zs := ⟨Kd.R_over' (v := .slice (some ⟨g, 0, none⟩) ys.length c') (row_ (h := h) (k := k)) (Kd.R_typed l.out) m.out (Kd.R_putg l.out (i : Int) v).2⟩
instance [h : At d t w1 W A c zs] [l : IRow e w W g c' ys] [m : NeT d t e] : At d t w1 (W.setCell ⟨g, i, none⟩ (.int .i64 v)) A c zs := ⟨Kd.R_over' (v := .slice (some ⟨g, 0, none⟩) ys.length c') h.out (Kd.R_typed l.out) m.out (Kd.R_putg l.out (i : Int) v).2⟩
instance [h : At d t w1 W A c zs] : At d t w1 (W.alloc o) A c zs := ⟨Kd.R_alloc h.out o⟩
instance [h : At d t w1 W A c zs] : At d t w1 W.drew A c zs := ⟨Kd.R_drew h.out⟩
instance [h : At d t w1 W A c zs] : At d t w1 (W.drewN n) A c zs := ⟨Kd.R_drewN h.out n⟩
instance [k : Bel w W] [h : At d t w1 w A c zs] : At d t w1 W A c zs := ⟨Kd.R_below h.out k.out⟩
instance [k : Sin w W] [h : At d t w1 w A c zs] : At d t w1 W A c zs := ⟨Kd.R_below h.out k.out⟩
instance [h : At d t w1 W A c zs] [k : Blk W g cs e] [m : NeT d t e] : At d t w1 (W.setCell ⟨g, i, none⟩ u) A c zs := ⟨Kd.R_mono (Kd.R_far (p := ⟨g, i, none⟩) (Kd.R_types h.out k.out m.out) (fun _ hk => hk.2) u) (fun _ _ => trivial)⟩
theorem atFin [h : At d t w1 W A c zs] [l : From w w1] : d.R t W w.heap.size (fun _ => True) (.slice A zs.length c) zs := Kd.R_lower h.out l.out.size
instance [h : At d t w1 W A c zs] : Rd d W A zs := ⟨(Kd.R_reads' h.out).2.2⟩
end
end
end Go.Proofs.YtanhnhkcpbdfmaaGreat.V
namespace Go.Proofs.YtanhnhkcpbdfmaaGreat.V
open Go.RowKit Go.Proofs.YtanhnhkcpbdfmaaGreatW.PrintWords Go.Proofs.YtanhnhkcpbdfmaaGreatW.PrintLast
section
variable {P : Program} {ops : Array Oper} {Q : Exit → Act → World → Prop} {T : Bool × List (List Nat × List Nat)} {B : List Nat} {oi : Oper} {v : Value} {fuel : Nat} {l l' : Array Bool} {ds : List Nat} {a a' : Act} {w w1 w3 : World}
abbrev Sb (w3 : World) : World → Prop := fun w' => Below w3.heap.size w3 w'
theorem qR {id n : Nat} (hT : rtab .any ops = T) (hB : waitsOk T.2 B = true) (h : Aside0 (rtab .any ops = T) → Aside0 (waitsOk T.2 B = true) → ∀ w3, Bel w w3 → ∀ u, Bel w3 u → Sb w3 u → wpAnyLast P .any ops Q (Sb w3) ds n l a u)
    (hn : ops.size = n := by rfl) (hl : Array.replicate n false = l := by rfl) (hm : P.follows .mixedOrders = true := by kernel_rfl) : (Code.region id ops true).wp P Q a w :=
  start_ (S := Sb w) (ds := ds) l hm hn hl (below_drew1 (Below.refl _ _)) fun hS => h ⟨hT⟩ ⟨hB⟩ w ⟨Below.refl _ _⟩ w.drew ⟨hS⟩ hS
theorem qA (i : Nat) (N : Option Tmp) (HT : Aside0 (rtab .any ops = T)) (h : wpAnyLast P .any ops Q (Sb w3) ds fuel l' a' w) (hi : ops[i]? = some oi := by rfl) (hN : oi.dst = N := by rfl)
    (hl : l.setIfInBounds i true = l' := by simp only [List.setIfInBounds_toArray, List.set_cons_zero, List.set_cons_succ]; rfl) (hc : anyT T l.toList l'.toList i = true := by kernel_rfl)
    (hQ : ∀ c a w, Q (.panic c) (a.put oi.dst v) w → Q (.panic c) a w := by exact fun _ _ _ h => h) (hw : Region.wanted oi (yielded ops a.tmps) = true := by rfl)
    (hy : ∀ w', (execOp a.eval oi).run P w' = .ok (.value v) w' := by intro w'; go_simp; with_reducible rfl) (ha : a.put N v = a' := by simp only [Act.put, List.setIfInBounds_toArray, List.set_cons_zero, List.set_cons_succ, i64_w, i32_w]; rfl) :
    wpAnyLast P .any ops Q (Sb w3) ds (fuel + 1) l a w := pure_ l' hi hN (any_of HT.out hc) hQ (Or.inl ⟨hw, hy⟩) ha h
theorem qT (i : Nat) (N : Option Tmp) (HT : Aside0 (rtab .any ops = T)) (HW : Aside0 (waitsOk T.2 B = true)) (hS : Sb w3 w) (h : wpAnyLast P .any ops Q (Sb w3) ds fuel l' a' w) (hi : ops[i]? = some oi := by rfl) (hN : oi.dst = N := by rfl)
    (hl : l.setIfInBounds i true = l' := by simp only [List.setIfInBounds_toArray, List.set_cons_zero, List.set_cons_succ]; rfl) (hc : takeW T B ds l.toList l'.toList i = true := by kernel_rfl)
    (hQ : ∀ c a w, Q (.panic c) (a.put oi.dst v) w → Q (.panic c) a w := by exact fun _ _ _ h => h) (hw : Region.wanted oi (yielded ops a.tmps) = true := by rfl)
    (hy : ∀ w', Sin w3 w' → (execOp a.eval oi).run P w' = .ok (.value v) w' := by intro w' jS; go_simp; with_reducible rfl) (ha : a.put N v = a' := by simp only [Act.put, List.setIfInBounds_toArray, List.set_cons_zero, List.set_cons_succ, i64_w, i32_w]; rfl) :
    wpAnyLast P .any ops Q (Sb w3) ds (fuel + 1) l a w := take_ l' hi hN (take_ofW HT.out HW.out hc) hQ (Or.inl ⟨hw, fun w' hS => hy w' ⟨hS⟩⟩) hS ha h
theorem qB {a' : Nat → Act} (i N : Nat) (cs : Array Value) (t : TypeId) (HT : Aside0 (rtab .any ops = T)) (hS : Sb w3 w) (h : ∀ g, Born w g → ∀ w1, Bel w w1 → Blk w1 g cs t → Sb w3 w1 → wpAnyLast P .any ops Q (Sb w3) ds fuel l' (a' g) w1) (hi : ops[i]? = some oi := by rfl) (hN : oi.dst = some N := by rfl)
    (hl : l.setIfInBounds i true = l' := by simp only [List.setIfInBounds_toArray, List.set_cons_zero, List.set_cons_succ]; rfl) (hc : (readyT T.2 l.toList == [i] && l.toList.set i true == l'.toList) = true := by kernel_rfl) (hd : i ∉ ds := by decide) (hw : Region.wanted oi (yielded ops a.tmps) = true := by rfl)
    (hr : (execOp a.eval oi).run P w = .ok (.value (.pointer (some ⟨w.heap.size, 0, none⟩))) (w.alloc (.cells cs t (0, 0))) := by first | (go_simp; done) | (go_simp; rfl))
    (ha : ∀ g, a.put (some N) (.pointer (some ⟨g, 0, none⟩)) = a' g := by intro g; simp only [Act.put, List.setIfInBounds_toArray, List.set_cons_zero, List.set_cons_succ, i64_w, i32_w]; rfl) :
    wpAnyLast P .any ops Q (Sb w3) ds (fuel + 1) l a w := one_ l' hi hN (one_of HT.out hc) hd fun K hK => by
  rw [← hN]
  refine box_step hw hN hr fun g hg w1 hb hk => ?_
  have h1 : Sb w3 w1 := below_step hS hk
  exact hK.out _ _ h1 fun _ => by rw [hN, ha]; exact h g ⟨hg⟩ w1 ⟨hk⟩ ⟨hb⟩ h1
theorem qS (i : Nat) (HT : Aside0 (rtab .any ops = T)) (h : Sb w3 w1 → wpAnyLast P .any ops Q (Sb w3) ds fuel l' a w1) (hi : ops[i]? = some oi := by rfl) (hN : oi.dst = none := by rfl)
    (hl : l.setIfInBounds i true = l' := by simp only [List.setIfInBounds_toArray, List.set_cons_zero, List.set_cons_succ]; rfl) (hc : (readyT T.2 l.toList == [i] && l.toList.set i true == l'.toList) = true := by kernel_rfl) (hd : i ∉ ds := by decide) (hw : Region.wanted oi (yielded ops a.tmps) = true := by rfl)
    (hr : (execOp a.eval oi).run P w = .ok .skip w1 := by go_simp; rfl) (hS : From w3 w1 := by infer_instance) :
    wpAnyLast P .any ops Q (Sb w3) ds (fuel + 1) l a w := one_ l' hi hN (one_of HT.out hc) hd fun K hK => skip_ hw hN hr (hK.out _ _ hS.out fun _ => h hS.out)
theorem qL (i : Nat) (HT : Aside0 (rtab .any ops = T)) (h : wpAnyLast P .any ops Q (Sb w3) ds fuel l' a w1) (hi : ops[i]? = some oi := by rfl) (hN : oi.dst = none := by rfl)
    (hl : l.setIfInBounds i true = l' := by simp only [List.setIfInBounds_toArray, List.set_cons_zero, List.set_cons_succ]; rfl) (hc : (readyT T.2 l.toList == [i] && l.toList.set i true == l'.toList) = true := by kernel_rfl) (hd : i ∈ ds := by decide) (hw : Region.wanted oi (yielded ops a.tmps) = true := by rfl)
    (hr : (execOp a.eval oi).run P w = .ok .skip w1 := by go_simp; rfl) :
    wpAnyLast P .any ops Q (Sb w3) ds (fuel + 1) l a w := last_ l' hi hN (one_of HT.out hc) hd fun K hK => skip_ hw hN hr (hK.out _ _ h)
theorem qC {f : FuncId} {args : Array Value} {xs : Array Operand} {ts : Array TypeId} (i N : Nat) {fn : Func} (hf : P.funcs[f]? = some fn) (HT : Aside0 (rtab .any ops = T)) (h : ∀ K : Act → World → Prop, (∀ a' w', Sb w3 w' → (Sb w3 w' → wpAnyLast P .any ops Q (Sb w3) ds fuel l' a' w') → K a' w') → Calls P f args w fun e w' => ∃ v, e = .returned v ∧ K (a.put (some N) v) w') (hi : ops[i]? = some oi := by rfl) (hN : oi.dst = some N := by rfl)
    (hl : l.setIfInBounds i true = l' := by simp only [List.setIfInBounds_toArray, List.set_cons_zero, List.set_cons_succ]; rfl) (hc : (readyT T.2 l.toList == [i] && l.toList.set i true == l'.toList) = true := by kernel_rfl) (hd : i ∉ ds := by decide) (hw : Region.wanted oi (yielded ops a.tmps) = true := by rfl)
    (hop : oi.op = .call { callee := .value (.func f), args := xs, argTypes := ts } := by rfl) (hname : (fn.name == "runtime.NumGoroutine") = false := by kernel_rfl) (hb : fn.body.isSome = true := by rfl)
    (hargs : xs.map a.eval = args := by (try simp only [List.map_toArray, List.map_cons, List.map_nil]); first | done | rfl) :
    wpAnyLast P .any ops Q (Sb w3) ds (fuel + 1) l a w := one_ l' hi hN (one_of HT.out hc) hd fun K hK => goes_ hf hname hb args hw hN hop hargs (h K (fun a' w' h1 h2 => hK.out a' w' h1 h2))
theorem qN (h : wpAnyLast P .any ops Q (Sb w3) ds fuel l a' w) (ha : a = a' := by show Act.put _ (some _) _ = _; simp only [Act.put, List.setIfInBounds_toArray, List.set_cons_zero, List.set_cons_succ, i64_w, i32_w]; rfl) : wpAnyLast P .any ops Q (Sb w3) ds fuel l a w := norm_ ha h
theorem qD (HT : Aside0 (rtab .any ops = T)) (h : Q .normal a w) (hr : (readyT T.2 l.toList == []) = true := by kernel_rfl) : wpAnyLast P .any ops Q (Sb w3) ds fuel l a w := done_ (done_of HT.out hr) h
theorem qO1 (i : Nat) (Ni : Option Tmp) (HT : Aside0 (rtab .any ops = T))
    (h : ∀ K : Act → World → Prop, Shut (∀ a' w', Sb w3 w' → (Sb w3 w' → wpAnyLast P .any ops Q (Sb w3) ds fuel l' a' w') → K a' w') → if Region.wanted oi (yielded ops a.tmps) = true then Oper.wp P oi a w K Q else K (a.put Ni undef) w)
    (hi : ops[i]? = some oi := by rfl) (hN : oi.dst = Ni := by rfl) (hl : l.setIfInBounds i true = l' := by simp only [List.setIfInBounds_toArray, List.set_cons_zero, List.set_cons_succ]; rfl) (hc : (readyT T.2 l.toList == [i] && l.toList.set i true == l'.toList) = true := by kernel_rfl) (hd : i ∉ ds := by decide) :
    wpAnyLast P .any ops Q (Sb w3) ds (fuel + 1) l a w := one_ l' hi hN (one_of HT.out hc) hd h
theorem qX0 {K : Act → World → Prop} (N : Nat) (cs : Array Value) (t : TypeId) (h : ∀ g, Born w g → ∀ w1, Bel w w1 → Blk w1 g cs t → K (a.put (some N) (.pointer (some ⟨g, 0, none⟩))) w1) (hN : oi.dst = some N := by rfl) (hw : Region.wanted oi (yielded ops a.tmps) = true := by rfl)
    (hr : (execOp a.eval oi).run P w = .ok (.value (.pointer (some ⟨w.heap.size, 0, none⟩))) (w.alloc (.cells cs t (0, 0))) := by first | (go_simp; done) | (go_simp; rfl)) : if Region.wanted oi (yielded ops a.tmps) = true then Oper.wp P oi a w K Q else K (a.put (some N) undef) w := by
  rw [← hN]
  refine box_step hw hN hr fun g hg w1 hb hk => ?_
  rw [hN]
  exact h g ⟨hg⟩ w1 ⟨hk⟩ ⟨hb⟩
theorem qO2 {oj : Oper} {li lj : Array Bool} (i j : Nat) (Ni Nj : Option Tmp) (HT : Aside0 (rtab .any ops = T))
    (h1 : ∀ K : Act → World → Prop, Shut (∀ a' w', Sb w3 w' → (Sb w3 w' → wpAnyLast P .any ops Q (Sb w3) ds fuel li a' w') → K a' w') → if Region.wanted oi (yielded ops a.tmps) = true then Oper.wp P oi a w K Q else K (a.put Ni undef) w)
    (h2 : ∀ K : Act → World → Prop, Shut (∀ a' w', Sb w3 w' → (Sb w3 w' → wpAnyLast P .any ops Q (Sb w3) ds fuel lj a' w') → K a' w') → if Region.wanted oj (yielded ops a.tmps) = true then Oper.wp P oj a w K Q else K (a.put Nj undef) w)
    (hi : ops[i]? = some oi := by rfl) (hj : ops[j]? = some oj := by rfl) (hNi : oi.dst = Ni := by rfl) (hNj : oj.dst = Nj := by rfl)
    (hli : l.setIfInBounds i true = li := by simp only [List.setIfInBounds_toArray, List.set_cons_zero, List.set_cons_succ]; rfl) (hlj : l.setIfInBounds j true = lj := by simp only [List.setIfInBounds_toArray, List.set_cons_zero, List.set_cons_succ]; rfl)
    (hc : (readyT T.2 l.toList == [i, j] && l.toList.set i true == li.toList && l.toList.set j true == lj.toList) = true := by kernel_rfl) (hdi : i ∉ ds := by decide) (hdj : j ∉ ds := by decide) :
    wpAnyLast P .any ops Q (Sb w3) ds (fuel + 1) l a w := two_ li lj hi hj hNi hNj (two_of HT.out hc) hdi hdj h1 h2
section
variable {α : Type} {xs ys : List α} {inner : List Value} {K : Act → World → Prop} {N : Nat}
theorem qI0 (d : Kd α) (e N : Nat) (xs : List α) (inner : List Value) (hp : Reps (d.M w w.heap.size (fun _ => True)) d.sz xs inner) (h : ∀ A c w1, RowE d e w w1 A c xs → Bel w w1 → K (a.put (some N) (.slice A xs.length c)) w1)
    (hN : oi.dst = some N := by rfl) (hw : Region.wanted oi (yielded ops a.tmps) = true := by rfl) (hr : (execOp a.eval oi).run P w = .ok (.value (.slice (some ⟨w.heap.size, 0, none⟩) xs.length xs.length)) (w.alloc (.cells inner.toArray e)) := by first | (go_simp; done) | (go_simp; rfl)) (hl : xs.length ≤ 9223372036854775807 := by simp) :
    if Region.wanted oi (yielded ops a.tmps) = true then Oper.wp P oi a w K Q else K (a.put (some N) undef) w := by
  rw [← hN]
  refine Kd.R_lit_step d w.heap.size e hw hN (xs := xs) (inner := inner) (ok := fun _ => True) (okp := fun _ => True) hr hp (fun _ h => h) trivial (Below.refl _ _) (Nat.le_refl _) hl ?_
  intro v1 w1 ho hb _ _
  obtain ⟨A, c, rfl⟩ := Kd.R_slice ho
  rw [hN]
  exact h A c w1 ⟨ho⟩ ⟨hb⟩
theorem qI {a' : Option Addr → Nat → Act} (d : Kd α) (i e N : Nat) (xs : List α) (inner : List Value) (HT : Aside0 (rtab .any ops = T)) (hS : Sb w3 w) (hp : Reps (d.M w w.heap.size (fun _ => True)) d.sz xs inner) (h : ∀ A c w1, RowE d e w w1 A c xs → Bel w w1 → Sb w3 w1 → wpAnyLast P .any ops Q (Sb w3) ds fuel l' (a' A c) w1) (hi : ops[i]? = some oi := by rfl)
    (hN : oi.dst = some N := by rfl) (hl' : l.setIfInBounds i true = l' := by simp only [List.setIfInBounds_toArray, List.set_cons_zero, List.set_cons_succ]; rfl) (hc : (readyT T.2 l.toList == [i] && l.toList.set i true == l'.toList) = true := by kernel_rfl) (hd : i ∉ ds := by decide) (hw : Region.wanted oi (yielded ops a.tmps) = true := by rfl)
    (hr : (execOp a.eval oi).run P w = .ok (.value (.slice (some ⟨w.heap.size, 0, none⟩) xs.length xs.length)) (w.alloc (.cells inner.toArray e)) := by first | (go_simp; done) | (go_simp; rfl)) (hl : xs.length ≤ 9223372036854775807 := by simp)
    (ha : ∀ A c, a.put (some N) (.slice A xs.length c) = a' A c := by intro A c; simp only [Act.put, List.setIfInBounds_toArray, List.set_cons_zero, List.set_cons_succ, i64_w, i32_w]; rfl) :
    wpAnyLast P .any ops Q (Sb w3) ds (fuel + 1) l a w := one_ l' hi hN (one_of HT.out hc) hd fun K hK => qI0 d e N xs inner hp (fun A c w1 j b => hK.out _ _ (below_step hS b.out) fun _ => by rw [ha]; exact h A c w1 j b (below_step hS b.out)) hN hw hr hl
theorem qP {a' : Option Addr → Nat → Act} {A A2 : Option Addr} {c c2 e : Nat} (d : Kd α) (xs ys : List α) (i N : Nat) (so xo : Operand) (t : TypeId) (z : Value) (bytes : Nat) (HT : Aside0 (rtab .any ops = T)) (hS : Sb w3 w)
    (hu : P.underlying t = some (.slice e)) (hinfo : (P.info? e).map (fun i => (i.zero, i.size, i.bytes)) = some (some z, d.sz, bytes)) (hz : z.cells.size = d.sz) (hs0 : 0 < d.sz) (hb0 : 0 < bytes) (hKM : ∀ x cs, d.K w x cs → d.M w w3.heap.size (fun _ => False) x cs) (hlen : (xs.length + ys.length) * bytes ≤ 140737488355328)
    (h : ∀ A' c' w1, RowE d e w3 w1 A' c' (xs ++ ys) → Bel w3 w1 → Sb w3 w1 → wpAnyLast P .any ops Q (Sb w3) ds fuel l' (a' A' c') w1)
    (hi : ops[i]? = some oi := by rfl) (hN : oi.dst = some N := by rfl) (ho : oi.op = .call { callee := .builtin .append, args := #[so, xo], argTypes := #[t, t] } := by rfl) (hs : a.eval so = .slice A xs.length c := by rfl) (hx : a.eval xo = .slice A2 ys.length c2 := by rfl)
    (hl' : l.setIfInBounds i true = l' := by simp only [List.setIfInBounds_toArray, List.set_cons_zero, List.set_cons_succ]; rfl) (hc : (readyT T.2 l.toList == [i] && l.toList.set i true == l'.toList) = true := by kernel_rfl) (hd : i ∉ ds := by decide) (hw : Region.wanted oi (yielded ops a.tmps) = true := by rfl)
    (hR : d.R e w w3.heap.size (fun _ => True) (.slice A xs.length c) xs := by exact rowFin) (hR2 : d.C w A2 ys.length ys := by exact rowRd)
    (ha : ∀ A c, a.put (some N) (.slice A (xs ++ ys).length c) = a' A c := by intro A c; simp only [Act.put, List.setIfInBounds_toArray, List.set_cons_zero, List.set_cons_succ, i64_w, i32_w]; rfl) :
    wpAnyLast P .any ops Q (Sb w3) ds (fuel + 1) l a w := one_ l' hi hN (one_of HT.out hc) hd fun K hK => by
  rw [← hN]
  refine Kd.R_append_rows_step d (w0 := w3) w3.heap.size hw so xo t e z bytes ho hu hinfo hz hs0 hb0 (.slice A xs.length c) xs ys A2 ys.length c2 (fun _ => True) (fun _ => False) hs hx hR hR2 hKM (fun _ h => h.elim) (fun _ _ => trivial) hS hS.size hlen ?_
  intro v1 w1 ho2 hb _ _
  obtain ⟨A', c', rfl⟩ := Kd.R_slice ho2
  rw [hN]
  exact hK.out _ _ hb fun _ => by rw [ha]; exact h A' c' w1 ⟨ho2⟩ ⟨hb⟩ hb
end
end
class GrE (W : outParam World) (W' : World) (e : outParam Nat) : Prop where out : ∀ (g : Nat) (cs : Array Value) (t : TypeId), W.heap[g]? = some (.cells cs t (0, 0)) → e ≠ t → W'.heap[g]? = some (.cells cs t (0, 0))
class NeN (e t : Nat) : Prop where out : e ≠ t
section
variable {w w0 W W' : World} {g e t : Nat} {cs : Array Value}
instance [h : GrE W W' e] [k : Blk W g cs t] [n : NeN e t] : Blk W' g cs t := ⟨h.out g cs t k.out n.out⟩
theorem grE {α : Type} {d : Kd α} {v : Value} {xs : List α} {B : Nat} {ok : Nat → Prop} (h : d.R e W B ok v xs) (hg : W.grownBy W' v.ownBlock) : GrE W W' e := ⟨fun g cs t hb ht => blk_grown hb hg (Kd.R_ne h hb ht)⟩
theorem rowFin' {α : Type} {d : Kd α} {w1 w2 : World} {A : Option Addr} {c n : Nat} {xs : List α} [h : RowE d e w1 w2 A c xs] [k : Keep w1 w2 W] [l : From w w1] (hn : n = xs.length) : d.R e W w.heap.size (fun _ => True) (.slice A n c) xs := by rw [hn]; exact rowFin
theorem rowOf_ {α : Type} {d : Kd α} {v : Value} {xs : List α} (h : d.R e W w.heap.size (fun _ => True) v xs) : ∃ A c, v = .slice A xs.length c ∧ RowE d e w W A c xs := by
  obtain ⟨A, c, rfl⟩ := Kd.R_slice h
  exact ⟨A, c, rfl, ⟨h⟩⟩
theorem atFin' {α : Type} {d : Kd α} {w1 : World} {A : Option Addr} {c n : Nat} {xs : List α} [h : At d e w1 W A c xs] [l : From w w1] (hn : n = xs.length) : d.R e W w.heap.size (fun _ => True) (.slice A n c) xs := by rw [hn]; exact atFin
class Dj (A B : Option Addr) : Prop where out : ∀ a b : Addr, A = some a → B = some b → a.block ≠ b.block
theorem own_blk_ {a : Addr} {n c k : Nat} (h : (Value.slice (some a) n c).ownBlock = some k) : k = a.block := by cases h; rfl
theorem djOf_ {A B : Option Addr} {n c n' c' : Nat} (h : ∀ k, (Value.slice A n c).ownBlock = some k → some k ≠ (Value.slice B n' c').ownBlock) : Dj A B :=
  ⟨by rintro a b rfl rfl e; exact h a.block rfl (by rw [e]; rfl)⟩
instance {B : Option Addr} : Dj none B := ⟨fun _ _ h => by cases h⟩
instance {A : Option Addr} : Dj A none := ⟨fun _ _ _ h => by cases h⟩
theorem rowBlk_ {e : Nat} {w1 w2 : World} {a : Addr} {c : Nat} {xs : List Int} (h : RowE (Kd.int .i64) e w1 w2 (some a) c xs) : w1.heap.size ≤ a.block ∧ a.block < w2.heap.size := ⟨Kd.R_base h.out a.block rfl, Kd.R_lt h.out a.block rfl⟩
instance {e e' : Nat} {w1 w2 w1' w2' : World} {A B : Option Addr} {c c' : Nat} {xs ys : List Int} [a : RowE (Kd.int .i64) e w1 w2 A c xs] [b : RowE (Kd.int .i64) e' w1' w2' B c' ys] [s : Sz w2 w1'] : Dj A B :=
  ⟨by rintro x y rfl rfl h; have h1 := rowBlk_ a; have h2 := rowBlk_ b; have := s.out; omega⟩
instance {e e' : Nat} {w1 w2 w1' w2' : World} {A B : Option Addr} {c c' : Nat} {xs ys : List Int} [a : RowE (Kd.int .i64) e w1 w2 A c xs] [b : RowE (Kd.int .i64) e' w1' w2' B c' ys] [s : Sz w2' w1] : Dj A B :=
  ⟨by rintro x y rfl rfl h; have h1 := rowBlk_ a; have h2 := rowBlk_ b; have := s.out; omega⟩
theorem grAt {W W' : World} {A : Option Addr} {c : Nat} {xs : List Int} (hg : W.grownBy W' (Value.slice A xs.length c).ownBlock) [h : At (Kd.int .i64) e w W A c xs] : GrE W W' e := grE h.out hg
theorem djSym {A B : Option Addr} (h : Dj A B) : Dj B A := ⟨fun a b h1 h2 e => h.out b a h2 h1 e.symm⟩
theorem djR {e B0 n c n' c' : Nat} {A B : Option Addr} {ok : Nat → Prop} {xs : List Int} (h : (Kd.int .i64).R e W B0 ok (.slice A n c) xs) [d : Dj A B] : (Kd.int .i64).R e W B0 (fun k => some k ≠ (Value.slice B n' c').ownBlock) (.slice A n c) xs :=
  Kd.R_reok rfl h (by
    intro k hk he
    rcases A with _ | a
    · cases hk
    rcases B with _ | b
    · cases he
    have h1 := own_blk_ hk
    have h2 := own_blk_ he.symm
    exact d.out a b rfl rfl (h1.symm.trans h2))
theorem atOf_ {α : Type} {d : Kd α} {ok : Nat → Prop} {v : Value} {xs : List α} (h : d.R e W w.heap.size ok v xs) : ∃ A c, v = .slice A xs.length c ∧ At d e w W A c xs ∧ LeI xs.length c ∧ ∀ k, (Value.slice A xs.length c).ownBlock = some k → ok k := by
  obtain ⟨A, c, rfl⟩ := Kd.R_slice h
  exact ⟨A, c, rfl, ⟨Kd.R_mono h (fun _ _ => trivial)⟩, ⟨(Kd.R_reads' h).2.1⟩, h.1⟩
theorem keepGr {α : Type} {d : Kd α} {e' : Nat} {w1 w2 : World} {A B : Option Addr} {c c' n : Nat} {xs : List α} {ys : List Int} (j : RowE d e' w1 w2 A c xs) [k : Keep w1 w2 W] (hg : W.grownBy W' (Value.slice B n c').ownBlock) [a : At (Kd.int .i64) e w w1 B c' ys] : Keep w1 w2 W' :=
  ⟨fun i h1 h2 => (hg.block i (keep_lt k h1 h2) (by
    rintro hb
    rcases B with _ | b
    · cases hb
    have h3 := own_blk_ hb.symm
    have h4 := Kd.R_lt a.out b.block rfl
    omega)).trans (k.out i h1 h2)⟩
theorem djGr {w1 w2 : World} {A B C : Option Addr} {c c' c7 n n7 : Nat} {xs ys : List Int} {e' : Nat} (j : RowE (Kd.int .i64) e' w1 w2 A c xs)
    (hat : (Value.slice C n7 c7).ownBlock = (Value.slice B n c').ownBlock ∨ ∃ b, (Value.slice C n7 c7).ownBlock = some b ∧ W.heap.size ≤ b) [s : Sz w2 W] [a : At (Kd.int .i64) e w w1 B c' ys] : Dj C A :=
  ⟨by
    rintro x y rfl rfl he
    have h1 := rowBlk_ j
    have h2 := s.out
    rcases hat with h | ⟨b, hb, hs⟩
    · rcases B with _ | z
      · cases h
      have h3 : x.block = z.block := by cases z; cases x; injection h
      have h4 := Kd.R_lt a.out z.block rfl
      omega
    · have h3 := own_blk_ hb
      omega⟩
def tB (A : Option Addr) (k : Nat) : Prop := ∃ a : Addr, A = some a ∧ k = a.block
class NoE {α : Type} (d : Kd α) : Prop where out : d.E = []
theorem tB_own {A : Option Addr} {n c k : Nat} (h : some k = (Value.slice A n c).ownBlock) : tB A k := by
  rcases A with _ | a
  · cases h
  · exact ⟨a, rfl, own_blk_ h.symm⟩
theorem own_tB {A : Option Addr} {n c k : Nat} (h : tB A k) : (Value.slice A n c).ownBlock = some k := by obtain ⟨a, rfl, rfl⟩ := h; rfl
theorem rowT {α : Type} {d : Kd α} {w1 w2 : World} {A : Option Addr} {c : Nat} {xs : List α} [h : RowE d e w1 w2 A c xs] [k : Keep w1 w2 W] [l : From w w1] [n : NoE d] : d.R e W w.heap.size (tB A) (.slice A xs.length c) xs :=
  Kd.R_mono (Kd.R_tight n.out (rowFin (w := w) (h := h) (k := k))) (fun _ hk => tB_own hk)
theorem atT {α : Type} {d : Kd α} {w1 : World} {A : Option Addr} {c : Nat} {xs : List α} [h : At d e w1 W A c xs] [l : From w w1] [n : NoE d] : d.R e W w.heap.size (tB A) (.slice A xs.length c) xs :=
  Kd.R_mono (Kd.R_tight n.out (atFin (w := w) (h := h))) (fun _ hk => tB_own hk)
theorem tBlk_ {α : Type} {d : Kd α} {a b : World} {A : Option Addr} {c k : Nat} {xs : List α} (h : RowE d e a b A c xs) (hk : tB A k) : a.heap.size ≤ k ∧ k < b.heap.size := ⟨Kd.R_base h.out k (own_tB hk), Kd.R_lt h.out k (own_tB hk)⟩
theorem mk3T {α β γ : Type} {d0 : Kd α} {d1 : Kd β} {d2 : Kd γ} {e0 e1 e2 c0 c1 c2 : Nat} {a b : World} {A0 A1 A2 : Option Addr} {x0 : List α} {x1 : List β} {x2 : List γ} (h : Kept W W' (fun k => tB A0 k ∨ tB A1 k ∨ tB A2 k))
    [j0 : RowE d0 e0 a b A0 c0 x0] [j1 : RowE d1 e1 a b A1 c1 x1] [j2 : RowE d2 e2 a b A2 c2 x2] : Mk W W' a b :=
  ⟨⟨h.1, fun i hi hs => h.2 i hi (fun hh => hs (hh.elim (tBlk_ j0) (fun hh => hh.elim (tBlk_ j1) (tBlk_ j2))))⟩⟩
theorem mk1T {α : Type} {d0 : Kd α} {e0 c0 : Nat} {a b : World} {A0 : Option Addr} {x0 : List α} (h : Kept W W' (fun k => tB A0 k)) [j0 : RowE d0 e0 a b A0 c0 x0] : Mk W W' a b :=
  ⟨⟨h.1, fun i hi hs => h.2 i hi (fun hh => hs (tBlk_ j0 hh))⟩⟩
theorem tyDis {α β : Type} {d : Kd α} {d' : Kd β} {e' B B' n n' c c' : Nat} {ok ok' : Nat → Prop} {xs : List α} {ys : List β} {A A' : Option Addr} (h : d.R e W B ok (.slice A n c) xs) (h' : d'.R e' W B' ok' (.slice A' n' c') ys) (ne : e ≠ e') : ∀ k, tB A k → ¬ tB A' k := by
  intro k h1 h2
  obtain ⟨x, hx⟩ := Kd.R_typed h k (own_tB h1)
  obtain ⟨y, hy⟩ := Kd.R_typed h' k (own_tB h2)
  rw [hx] at hy
  injection hy with hy
  injection hy with _ hy
  exact ne hy
theorem djDis {A A' : Option Addr} (h : Dj A A') : ∀ k, tB A k → ¬ tB A' k := by rintro k ⟨a, rfl, rfl⟩ ⟨b, rfl, hb⟩; exact h.out a b rfl rfl hb
theorem keptR {α : Type} {d : Kd α} {B n c : Nat} {ok S : Nat → Prop} {xs : List α} {A : Option Addr} (n_ : d.E = []) (h : d.R e W B ok (.slice A n c) xs) (hk : Kept W W' S) (hS : ∀ k, tB A k → ¬ S k) : d.R e W' B (fun _ => True) (.slice A n c) xs :=
  Kd.R_mono (Kd.R_step (Kd.R_tight n_ h) (fun k ho hl => hk.2 k hl (hS k (tB_own ho)))) (fun _ _ => trivial)
theorem keepInt3 {α γ : Type} {d0 : Kd α} {d2 : Kd γ} {e0 e2 c0 c2 c3 : Nat} {a b : World} {A0 A1 A2 B : Option Addr} {x0 : List α} {x2 : List γ} {zs : List Int} (hk : Kept W W' (fun k => tB A0 k ∨ tB A1 k ∨ tB A2 k)) (j3 : RowE (Kd.int .i64) e a b B c3 zs) (dj : Dj B A1)
    (n0 : e ≠ e0) (n2 : e ≠ e2) [j0 : RowE d0 e0 a b A0 c0 x0] [j2 : RowE d2 e2 a b A2 c2 x2] [k : Keep a b W] : At (Kd.int .i64) e a W' B c3 zs :=
  ⟨keptR rfl (row_ (h := j3) (k := k)) hk (fun i hi hh => hh.elim (tyDis j3.out j0.out n0 i hi) (fun hh => hh.elim (djDis dj i hi) (tyDis j3.out j2.out n2 i hi)))⟩
theorem atK1 {α : Type} {d : Kd α} {e' c c' : Nat} {w1 : World} {A B : Option Addr} {xs : List α} {ys : List Int} (hk : Kept W W' (fun k => tB B k)) (t : At d e w W A c xs) (an : At (Kd.int .i64) e' w1 W B c' ys) (ne : e ≠ e') [n : NoE d] : At d e w W' A c xs :=
  ⟨keptR n.out t.out hk (tyDis t.out an.out ne)⟩
theorem atK2 {c : Nat} {A B : Option Addr} {xs : List Int} (hk : Kept W W' (fun k => tB B k)) (t : At (Kd.int .i64) e w W A c xs) (dj : Dj A B) : At (Kd.int .i64) e w W' A c xs := ⟨keptR rfl t.out hk (djDis dj)⟩
end
end Go.Proofs.YtanhnhkcpbdfmaaGreat.V
namespace Go.Proofs.YtanhnhkcpbdfmaaGreat.P
set_option maxHeartbeats 8000000
set_option maxRecDepth 100000
set_option synthInstance.maxHeartbeats 400000
set_option synthInstance.maxSize 100000
open Go.RowKit Go.Proofs.YtanhnhkcpbdfmaaGreatW.PrintWords Go.Proofs.YtanhnhkcpbdfmaaGreatW.PrintLast Go.Proofs.YtanhnhkcpbdfmaaGreatW.PrintMore Go.Proofs.YtanhnhkcpbdfmaaGreat.V
attribute [local go_sem] cell_b frozen_b cellR_c cell_r frozen_r cell_r0 frozen_r0
attribute [local go_sem] max2_int min2_int max_two min_two max_three min_three max_four min_four
def spec_WrongSteps.l0 : Nat → List Int → Int → List (S112) → Int → List Int → Option (List Int)
 | 0, _, _, _, _, _ => none
 | k + 1, x3, x4, x127000, x127001, x127002 => if x4 < x127001 then (if 0 ≤ x4 then (if x4 < (x127000.length : Int) then (if 0 ≤ ((rd_T112 x127000 x4).f1) then (if ((rd_T112 x127000 x4).f1) < (x127002.length : Int) then (if 0 ≤ ((rd_T112 x127000 x4).f0) then (if ((rd_T112 x127000 x4).f0) < (x127002.length : Int) then ((spec_TunedPitch.f k (rd x127002 ((rd_T112 x127000 x4).f0)) ((rd_T112 x127000 x4).f2) ((rd_T112 x127000 x4).f3)).bind fun t135 => (if (rd x127002 ((rd_T112 x127000 x4).f1)) = t135 then (spec_WrongSteps.l0 k x3 (wrap64 (x4 + 1)) x127000 x127001 x127002) else (if x3.length < 17592186044416 then (spec_WrongSteps.l0 k (x3 ++ [x4]) (wrap64 (x4 + 1)) x127000 x127001 x127002) else (none)))) else (none)) else (none)) else (none)) else (none)) else (none)) else (none)) else (some x3)
def spec_WrongSteps.f (k : Nat) (l0_0 : List (S112)) (a0_1 : Int) (l0_2 : List Int) : Option (List Int) := (some (([] : List Int) : List Int)).bind fun y127 => ((spec_WorkOk.f k l0_0 a0_1 l0_2).bind fun t130 => (if t130 = true then (spec_WrongSteps.l0 k y127 0 l0_0 a0_1 l0_2) else (some y127)))
def spec_WrongSteps.T8 : Bool × List (List Nat × List Nat) := (true, [([], []), ([0], [0]), ([], []), ([2], [2]), ([1, 3], [1, 3]), ([4], [4]), ([], []), ([6], [6]), ([], []), ([8], [8]), ([7, 9], [7, 9]), ([10], [10]), ([], []), ([12], [12]), ([], []), ([14], [14]), ([11, 13, 15], [11, 13, 15]), ([5, 16], [5, 16])])
def spec_WrongSteps.B8 : List Nat := [0, 1, 0, 4, 15, 31, 0, 64, 0, 256, 960, 1984, 0, 4096, 0, 16384, 65472, 131071]
theorem spec_WrongSteps.tab8 : rtab .any (opsOf Tryz.f83 8) = spec_WrongSteps.T8 := by kernel_rfl
theorem spec_WrongSteps.bits8 : waitsOk spec_WrongSteps.T8.2 spec_WrongSteps.B8 = true := by kernel_rfl
theorem spec_WrongSteps.calls (k : Nat) (A0_0 : Option Addr) (c0_0 : Nat) (l0_0 : List (S112)) (a0_1 : Int) (A0_2 : Option Addr) (c0_2 : Nat) (l0_2 : List Int) (r : List Int) (w : World) (hr0_0 : Kd.C k112 w A0_0 l0_0.length l0_0) (hc0_0 : l0_0.length ≤ c0_0) (hr0_2 : Kd.C (Kd.int .i64) w A0_2 l0_2.length l0_2) (hc0_2 : l0_2.length ≤ c0_2) (h : spec_WrongSteps.f k l0_0 a0_1 l0_2 = some r) :
  Calls Tryz.prog 83 #[.agg #[.slice A0_0 l0_0.length c0_0, .int .i64 a0_1, .slice A0_2 l0_2.length c0_2]] w fun e w' => ∃ v0_ : Value, e = .returned (v0_) ∧ Kd.R (Kd.int .i64) 3 w' w.heap.size (fun _ => True) v0_ r ∧ Below w.heap.size w w' := by
 have ihr0_0 := RdE.mk hr0_0
 have ihc0_0 := LeI.mk hc0_0
 have ihr0_2 := RdE.mk hr0_2
 have ihc0_2 := LeI.mk hc0_2
 clear hr0_0 hc0_0 hr0_2 hc0_2
 have nn3_34 := NeN.mk (e := 3) (t := 34) (by decide)
 have nn3_112 := NeN.mk (e := 3) (t := 112) (by decide)
 unfold spec_WrongSteps.f at h
 (try simp only [Option.bind_some] at h)
 have hu34 := Tryz.underlying34
 have hu112 := Tryz.underlying112
 (repeat' first | ((with_reducible replace h := ite_some h); rcases h with ⟨hc, h⟩ | ⟨hc, h⟩ <;> first | exact (none_some h).elim | exact absurd hc (by decide) | subst hc | (replace hc := hF_ hc; subst hc) | (replace hc := hG_ hc; subst hc) | (replace hc := hH_ hc; subst hc) | (have hd : (_ == _) = true := hc) | (have hd : (_ == _) = false := hF_ hc) | (have hd := hI_ hc; have he := hJ_ hc; clear hc) | (have hd := hK_ hc; have he := hL_ hc) | (have hd := decide_eq_false hc) | (have hd := decide_eq_true hc; (try (have hn := Int.natCast_pos.mp hc; have hm := decide_eq_true hn; replace hn := eq_true hn)); first | (obtain ⟨g_, e_, i_⟩ := form_ (by assumption) (by first | assumption | decide) hc; cases e_) | (obtain ⟨a_, e_, c_⟩ := atI_ (by assumption) (by first | assumption | decide) hc; cases e_) | (obtain ⟨a_, e_, c0_, c1_, c2_, c3_⟩ := at_T112 (RdE.out (self := by assumption)) _ (by first | assumption | decide) hc; cases e_; replace c0_ := CelE.mk c0_; replace c1_ := CelE.mk c1_; replace c2_ := CelE.mk c2_; replace c3_ := CelE.mk c3_)) | (have hd := decide_eq_true hc) | skip) | ((with_reducible replace h := bind_set_ h); obtain ⟨hl_, h⟩ := h; replace hl_ := A_ hl_; (try dsimp only at h)))
 all_goals go_enter Tryz.func83, Tryz.ntmps83
 all_goals go_wp2_with ((first
  | ((with_reducible refine gate_dst (N := 1) rfl ?_); refine bV #[.slice A0_0 l0_0.length c0_0, .int .i64 a0_1, .slice A0_2 l0_2.length c0_2] 34 fun g1 w1 j1 j2 j3 => ?_)
  | ((with_reducible refine gate_dst (N := 5) rfl ?_); refine bV #[.int .i64 0, .int .i64 0, .int .i64 0, .int .i64 0] 112 fun g5 w1 j1 j2 j3 => ?_)
  | ((with_reducible refine gate_dst (N := 6) rfl ?_); refine Kd.R_lit (Kd.int .i64) _ 3 ?hg (N := 6) ?hd (xs := ([] : List Int)) (inner := []) (ok := fun _ => True) (okp := fun _ => True) ?hr ?hp (fun _ hk => hk) trivial (Below.refl _ _) (Nat.le_refl _) (by simp) ?_; (case hd => rfl); (case hg => rfl); (case hr => first | (go_simp; done) | (go_simp; rfl)); (case hp => exact (Reps.none _ _)); intro v5 w5 ho hb hg_ hn_; obtain ⟨A5, c5, rfl⟩ := Kd.R_slice ho; have j5 := RowE.mk ho; have q5 := LeI.mk (rowLe j5); have j6 := Bel.mk hb; clear hg_ hn_ ho hb)
  | (go_at_call 86; (try rw [hl_.out]); replace h := bI h; obtain ⟨t, A, h⟩ := h; (try dsimp only at h); refine (spec_WorkOk.calls _ _ _ _ _ _ _ _ _ _ Rd.out LeI.out Rd.out LeI.out A).mono ?_; rintro e w2 ⟨rfl, hb⟩; have jb := Bel.mk hb; clear A hb)
  | (refine qR (id := 8) (ds := []) (l := #[false, false, false, false, false, false, false, false, false, false, false, false, false, false, false, false, false, false]) spec_WrongSteps.tab8 spec_WrongSteps.bits8 ?_; intro HT_ HW_ w3 jw u0 iu hHeld; refine qA 0 (some 22) HT_ ?_; refine qA 2 (some 24) HT_ ?_; refine qA 6 (some 28) HT_ ?_; refine qA 8 (some 30) HT_ ?_; refine qA 12 (some 34) HT_ ?_; refine qA 14 (some 36) HT_ ?_; refine qT 1 (some 23) HT_ HW_ hHeld ?_; refine qT 3 (some 25) HT_ HW_ hHeld ?_; refine qA 4 (some 26) HT_ ?_; refine qT 5 (some 27) HT_ HW_ hHeld ?_; refine qT 7 (some 29) HT_ HW_ hHeld ?_; refine qT 9 (some 31) HT_ HW_ hHeld ?_; refine qA 10 (some 32) HT_ ?_; refine qT 11 (some 33) HT_ HW_ hHeld ?_; refine qT 13 (some 35) HT_ HW_ hHeld ?_; refine qT 15 (some 37) HT_ HW_ hHeld ?_; replace h := bI h; obtain ⟨t, A, h⟩ := h; (try dsimp only at h); refine qC 16 38 Tryz.func122 HT_ fun K hK => ?_; refine (spec_TunedPitch.calls _ _ _ _ _ _ A).mono ?_; rintro e w2 ⟨rfl, hb⟩; have jb := Bel.mk hb; clear A hb; refine ⟨_, rfl, hK _ _ From.out fun hHeld => ?_⟩; clear hK K; refine qN ?_; refine qA 17 (some 39) HT_ ?_; refine qD HT_ ?_)
  | ((with_reducible refine gate_builtin (b := .append) (xs := #[.tmp 40, .tmp 42]) rfl ?_); at_builtin; refine Kd.R_append (Kd.int .i64) (w0 := w) w.heap.size rfl (.tmp 40) (.tmp 42) 23 3 (.int .i64 0) 8 rfl Tryz.underlying23 info3 rfl (by decide) (by omega) (.slice A90 x3_1.length c90) x3_1 x4_1 [.int .i64 x4_1] (fun _ => True) (fun _ => False) rfl rfl ?aP (fun _ hk => hk.elim) ?aF ?aO ?aB ?aS ?aL ?_; (case aP => exact rfl); (case aO => exact rowFin); (case aB => exact From.out); (case aF => exact (fun _ _ => trivial)); (case aS => exact (From.out (w0 := w)).size); (case aL => omega); intro v7 w7 ho hb hg hat; have jg := grE (rowFin (w := w) (d := (Kd.int .i64))) hg; obtain ⟨A7, c7, rfl, j7⟩ := rowOf_ ho; have q7 := LeI.mk (rowLe j7); have jf : From w w7 := ⟨hb⟩; have js : Sz w w7 := ⟨hb.size⟩; clear ho hb hg hat)); (repeat' first | ((with_reducible replace h := ite_some h); rcases h with ⟨hc, h⟩ | ⟨hc, h⟩ <;> first | exact (none_some h).elim | exact absurd hc (by decide) | subst hc | (replace hc := hF_ hc; subst hc) | (replace hc := hG_ hc; subst hc) | (replace hc := hH_ hc; subst hc) | (have hd : (_ == _) = true := hc) | (have hd : (_ == _) = false := hF_ hc) | (have hd := hI_ hc; have he := hJ_ hc; clear hc) | (have hd := hK_ hc; have he := hL_ hc) | (have hd := decide_eq_false hc) | (have hd := decide_eq_true hc; (try (have hn := Int.natCast_pos.mp hc; have hm := decide_eq_true hn; replace hn := eq_true hn)); first | (obtain ⟨g_, e_, i_⟩ := form_ (by assumption) (by first | assumption | decide) hc; cases e_) | (obtain ⟨a_, e_, c_⟩ := atI_ (by assumption) (by first | assumption | decide) hc; cases e_) | (obtain ⟨a_, e_, c0_, c1_, c2_, c3_⟩ := at_T112 (RdE.out (self := by assumption)) _ (by first | assumption | decide) hc; cases e_; replace c0_ := CelE.mk c0_; replace c1_ := CelE.mk c1_; replace c2_ := CelE.mk c2_; replace c3_ := CelE.mk c3_)) | (have hd := decide_eq_true hc) | skip) | ((with_reducible replace h := bind_set_ h); obtain ⟨hl_, h⟩ := h; replace hl_ := A_ hl_; (try dsimp only at h))))
 all_goals first
  | ((try obtain rfl := Option.some.inj h); go_ret; exact ⟨(.slice _ _ _), rfl, (by first | exact rowFin | exact rowFin' rfl | exact rowFin' (by simp) | exact Kd.R_nil _ _ _ _ _ | exact atFin | exact irowFin' (by simp)), From.out⟩)
  | skip
 go_loopg [3, 4] k (fun kq v3 v4 w' => ∃ (x3_1 : List Int) (x4_1 : Int), v4 = .int .i64 x4_1 ∧ Aside0 (spec_WrongSteps.l0 kq x3_1 x4_1 l0_0 a0_1 l0_2 = some r) ∧ Aside0 (kq ≤ k) ∧ Aside0 (Kd.R (Kd.int .i64) 3 w' w.heap.size (fun _ => True) v3 x3_1) ∧ Aside0 (w'.heap[g1]? = some (.cells #[(.slice A0_0 l0_0.length c0_0), .int .i64 a0_1, (.slice A0_2 l0_2.length c0_2)] 34 (0, 0))) ∧ Aside0 (Below w.heap.size w w'))
 case atStart => exact ⟨_, _, (by first | rfl | (simp; done)), ⟨h⟩, ⟨Nat.le_refl _⟩, ⟨by first | exact rowFin | exact rowFin' rfl | exact rowFin' (by simp) | exact Kd.R_nil _ _ _ _ _⟩, ⟨Blk.out⟩, ⟨From.out⟩⟩
 case round =>
  clear h
  obtain ⟨x3_1, x4_1, rfl, HA, HK1, HO_3, BK126, HB⟩ := hrel
  rcases gk with _ | k1
  ·exact absurd HA.out (by simp [spec_WrongSteps.l0])
  have h := HA.out
  clear HA
  simp only [spec_WrongSteps.l0] at h
  obtain ⟨A90, c90, rfl, j90⟩ := rowOf_ HO_3.out; have q90 := LeI.mk (rowLe j90); clear HO_3
  have BK126_ := Blk.mk BK126.out; clear BK126
  have HB_ : From w wr := ⟨HB.out⟩; have HS_ : Sz w wr := ⟨HB.out.size⟩; clear HB
  (repeat' first | ((with_reducible replace h := ite_some h); rcases h with ⟨hc, h⟩ | ⟨hc, h⟩ <;> first | exact (none_some h).elim | exact absurd hc (by decide) | subst hc | (replace hc := hF_ hc; subst hc) | (replace hc := hG_ hc; subst hc) | (replace hc := hH_ hc; subst hc) | (have hd : (_ == _) = true := hc) | (have hd : (_ == _) = false := hF_ hc) | (have hd := hI_ hc; have he := hJ_ hc; clear hc) | (have hd := hK_ hc; have he := hL_ hc) | (have hd := decide_eq_false hc) | (have hd := decide_eq_true hc; (try (have hn := Int.natCast_pos.mp hc; have hm := decide_eq_true hn; replace hn := eq_true hn)); first | (obtain ⟨g_, e_, i_⟩ := form_ (by assumption) (by first | assumption | decide) hc; cases e_) | (obtain ⟨a_, e_, c_⟩ := atI_ (by assumption) (by first | assumption | decide) hc; cases e_) | (obtain ⟨a_, e_, c0_, c1_, c2_, c3_⟩ := at_T112 (RdE.out (self := by assumption)) _ (by first | assumption | decide) hc; cases e_; replace c0_ := CelE.mk c0_; replace c1_ := CelE.mk c1_; replace c2_ := CelE.mk c2_; replace c3_ := CelE.mk c3_)) | (have hd := decide_eq_true hc) | skip) | ((with_reducible replace h := bind_set_ h); obtain ⟨hl_, h⟩ := h; replace hl_ := A_ hl_; (try dsimp only at h)))
  all_goals go_wp2_with ((first
   | ((with_reducible refine gate_dst (N := 1) rfl ?_); refine bV #[.slice A0_0 l0_0.length c0_0, .int .i64 a0_1, .slice A0_2 l0_2.length c0_2] 34 fun g1 w1 j1 j2 j3 => ?_)
   | ((with_reducible refine gate_dst (N := 5) rfl ?_); refine bV #[.int .i64 0, .int .i64 0, .int .i64 0, .int .i64 0] 112 fun g5 w1 j1 j2 j3 => ?_)
   | ((with_reducible refine gate_dst (N := 6) rfl ?_); refine Kd.R_lit (Kd.int .i64) _ 3 ?hg (N := 6) ?hd (xs := ([] : List Int)) (inner := []) (ok := fun _ => True) (okp := fun _ => True) ?hr ?hp (fun _ hk => hk) trivial (Below.refl _ _) (Nat.le_refl _) (by simp) ?_; (case hd => rfl); (case hg => rfl); (case hr => first | (go_simp; done) | (go_simp; rfl)); (case hp => exact (Reps.none _ _)); intro v5 w5 ho hb hg_ hn_; obtain ⟨A5, c5, rfl⟩ := Kd.R_slice ho; have j5 := RowE.mk ho; have q5 := LeI.mk (rowLe j5); have j6 := Bel.mk hb; clear hg_ hn_ ho hb)
   | (go_at_call 86; (try rw [hl_.out]); replace h := bI h; obtain ⟨t, A, h⟩ := h; (try dsimp only at h); refine (spec_WorkOk.calls _ _ _ _ _ _ _ _ _ _ Rd.out LeI.out Rd.out LeI.out A).mono ?_; rintro e w2 ⟨rfl, hb⟩; have jb := Bel.mk hb; clear A hb)
   | (refine qR (id := 8) (ds := []) (l := #[false, false, false, false, false, false, false, false, false, false, false, false, false, false, false, false, false, false]) spec_WrongSteps.tab8 spec_WrongSteps.bits8 ?_; intro HT_ HW_ w3 jw u0 iu hHeld; refine qA 0 (some 22) HT_ ?_; refine qA 2 (some 24) HT_ ?_; refine qA 6 (some 28) HT_ ?_; refine qA 8 (some 30) HT_ ?_; refine qA 12 (some 34) HT_ ?_; refine qA 14 (some 36) HT_ ?_; refine qT 1 (some 23) HT_ HW_ hHeld ?_; refine qT 3 (some 25) HT_ HW_ hHeld ?_; refine qA 4 (some 26) HT_ ?_; refine qT 5 (some 27) HT_ HW_ hHeld ?_; refine qT 7 (some 29) HT_ HW_ hHeld ?_; refine qT 9 (some 31) HT_ HW_ hHeld ?_; refine qA 10 (some 32) HT_ ?_; refine qT 11 (some 33) HT_ HW_ hHeld ?_; refine qT 13 (some 35) HT_ HW_ hHeld ?_; refine qT 15 (some 37) HT_ HW_ hHeld ?_; replace h := bI h; obtain ⟨t, A, h⟩ := h; (try dsimp only at h); refine qC 16 38 Tryz.func122 HT_ fun K hK => ?_; refine (spec_TunedPitch.calls _ _ _ _ _ _ A).mono ?_; rintro e w2 ⟨rfl, hb⟩; have jb := Bel.mk hb; clear A hb; refine ⟨_, rfl, hK _ _ From.out fun hHeld => ?_⟩; clear hK K; refine qN ?_; refine qA 17 (some 39) HT_ ?_; refine qD HT_ ?_)
   | ((with_reducible refine gate_builtin (b := .append) (xs := #[.tmp 40, .tmp 42]) rfl ?_); at_builtin; refine Kd.R_append (Kd.int .i64) (w0 := w) w.heap.size rfl (.tmp 40) (.tmp 42) 23 3 (.int .i64 0) 8 rfl Tryz.underlying23 info3 rfl (by decide) (by omega) (.slice A90 x3_1.length c90) x3_1 x4_1 [.int .i64 x4_1] (fun _ => True) (fun _ => False) rfl rfl ?aP (fun _ hk => hk.elim) ?aF ?aO ?aB ?aS ?aL ?_; (case aP => exact rfl); (case aO => exact rowFin); (case aB => exact From.out); (case aF => exact (fun _ _ => trivial)); (case aS => exact (From.out (w0 := w)).size); (case aL => omega); intro v7 w7 ho hb hg hat; have jg := grE (rowFin (w := w) (d := (Kd.int .i64))) hg; obtain ⟨A7, c7, rfl, j7⟩ := rowOf_ ho; have q7 := LeI.mk (rowLe j7); have jf : From w w7 := ⟨hb⟩; have js : Sz w w7 := ⟨hb.size⟩; clear ho hb hg hat)); (repeat' first | ((with_reducible replace h := ite_some h); rcases h with ⟨hc, h⟩ | ⟨hc, h⟩ <;> first | exact (none_some h).elim | exact absurd hc (by decide) | subst hc | (replace hc := hF_ hc; subst hc) | (replace hc := hG_ hc; subst hc) | (replace hc := hH_ hc; subst hc) | (have hd : (_ == _) = true := hc) | (have hd : (_ == _) = false := hF_ hc) | (have hd := hI_ hc; have he := hJ_ hc; clear hc) | (have hd := hK_ hc; have he := hL_ hc) | (have hd := decide_eq_false hc) | (have hd := decide_eq_true hc; (try (have hn := Int.natCast_pos.mp hc; have hm := decide_eq_true hn; replace hn := eq_true hn)); first | (obtain ⟨g_, e_, i_⟩ := form_ (by assumption) (by first | assumption | decide) hc; cases e_) | (obtain ⟨a_, e_, c_⟩ := atI_ (by assumption) (by first | assumption | decide) hc; cases e_) | (obtain ⟨a_, e_, c0_, c1_, c2_, c3_⟩ := at_T112 (RdE.out (self := by assumption)) _ (by first | assumption | decide) hc; cases e_; replace c0_ := CelE.mk c0_; replace c1_ := CelE.mk c1_; replace c2_ := CelE.mk c2_; replace c3_ := CelE.mk c3_)) | (have hd := decide_eq_true hc) | skip) | ((with_reducible replace h := bind_set_ h); obtain ⟨hl_, h⟩ := h; replace hl_ := A_ hl_; (try dsimp only at h))))
  all_goals first
   | (go_roundg k1; (case measure => have := HK1.out; omega); (case rel => exact ⟨_, _, (by first | rfl | (simp; done)), ⟨h⟩, ⟨by have := HK1.out; omega⟩, ⟨by first | exact rowFin | exact rowFin' rfl | exact rowFin' (by simp) | exact Kd.R_nil _ _ _ _ _⟩, ⟨Blk.out⟩, ⟨From.out⟩⟩))
   | ((try obtain rfl := Option.some.inj h); go_ret; exact ⟨(.slice _ _ _), rfl, (by first | exact rowFin | exact rowFin' rfl | exact rowFin' (by simp) | exact Kd.R_nil _ _ _ _ _ | exact atFin | exact irowFin' (by simp)), From.out⟩)
def spec_ActOk.j0 : Nat → Int → Bool → Int → Int → Int → Int → Option (Bool)
 | 0, _, _, _, _, _, _ => none
 | k + 1, x4, x5, x183000, x183001, x183002, x183003 => if x5 = true then (if x183001 = 0 then (if x183002 = 0 then (some (x183003 == 0)) else (some false)) else (some false)) else (if x4 = 2 then ((spec_l01In.f x183001 (-10) 40).bind fun t183 => (if t183 = true then (if x183002 = 0 then (some (x183003 == 0)) else (some false)) else (some false))) else (if x4 = 3 then ((spec_l01In.f x183001 0 3).bind fun t184 => (if t184 = true then ((spec_l01In.f x183002 0 39).bind fun t185 => (if t185 = true then ((spec_l01In.f x183003 0 2).bind fun t186 => (some t186)) else (some false))) else (some false))) else (if x4 = 4 then ((spec_l01In.f x183001 0 11).bind fun t187 => (if t187 = true then ((spec_l01In.f x183002 (-100000) 100000).bind fun t188 => (if t188 = true then (some (x183003 == 0)) else (some false))) else (some false))) else (if x4 = 7 then ((spec_l01In.f x183001 0 11).bind fun t189 => (if t189 = true then (if x183002 = 0 then (some (x183003 == 0)) else (some false)) else (some false))) else (some false)))))
def spec_ActOk.f (k : Nat) (a0_0 : Int) (a0_1 : Int) (a0_2 : Int) (a0_3 : Int) : Option (Bool) := if a0_0 = 1 then (spec_ActOk.j0 k a0_0 (a0_0 == 1) a0_0 a0_1 a0_2 a0_3) else (if a0_0 = 5 then (spec_ActOk.j0 k a0_0 (a0_0 == 5) a0_0 a0_1 a0_2 a0_3) else (spec_ActOk.j0 k a0_0 (a0_0 == 6) a0_0 a0_1 a0_2 a0_3))
theorem spec_ActOk.calls (k : Nat) (a0_0 : Int) (a0_1 : Int) (a0_2 : Int) (a0_3 : Int) (r : Bool) (w : World) (h : spec_ActOk.f k a0_0 a0_1 a0_2 a0_3 = some r) :
  Calls Tryz.prog 46 #[.agg #[.int .i64 a0_0, .int .i64 a0_1, .int .i64 a0_2, .int .i64 a0_3]] w fun e w' => e = .returned (.bool r) ∧ Below w.heap.size w w' := by
 unfold spec_ActOk.f at h
 have hu41 := Tryz.underlying41
 (repeat' first | ((with_reducible replace h := ite_some h); rcases h with ⟨hc, h⟩ | ⟨hc, h⟩ <;> first | exact (none_some h).elim | exact absurd hc (by decide) | subst hc | (replace hc := hF_ hc; subst hc) | (replace hc := hG_ hc; subst hc) | (replace hc := hH_ hc; subst hc) | (have hd : (_ == _) = true := hc) | (have hd : (_ == _) = false := hF_ hc) | (have hd := hI_ hc; have he := hJ_ hc; clear hc) | (have hd := hK_ hc; have he := hL_ hc) | (have hd := decide_eq_false hc) | (have hd := decide_eq_true hc; (try (have hn := Int.natCast_pos.mp hc; have hm := decide_eq_true hn; replace hn := eq_true hn)); first | (obtain ⟨g_, e_, i_⟩ := form_ (by assumption) (by first | assumption | decide) hc; cases e_) | (obtain ⟨a_, e_, c_⟩ := atI_ (by assumption) (by first | assumption | decide) hc; cases e_)) | (have hd := decide_eq_true hc) | skip) | ((with_reducible have hj : spec_ActOk.j0 k _ _ _ _ _ _ = _ := h); clear hj; rcases k with _ | k <;> rw [spec_ActOk.j0] at h <;> first | exact (none_some h).elim | skip) | ((with_reducible replace h := bind_set_ h); obtain ⟨hl_, h⟩ := h; replace hl_ := A_ hl_; (try dsimp only at h)))
 all_goals go_enter Tryz.func46, Tryz.ntmps46
 all_goals go_wp2_with ((first
  | ((with_reducible refine gate_dst (N := 1) rfl ?_); refine bV #[.int .i64 a0_0, .int .i64 a0_1, .int .i64 a0_2, .int .i64 a0_3] 41 fun g w1 j1 j2 j3 => ?_)
  | (go_at_call 88; (try rw [hl_.out]); replace h := bI h; obtain ⟨t, A, h⟩ := h; (try dsimp only at h); refine (spec_l01In.calls _ _ _ _ _ A).mono ?_; rintro e w2 ⟨rfl, n, rfl⟩; clear A)); (repeat' first | ((with_reducible replace h := ite_some h); rcases h with ⟨hc, h⟩ | ⟨hc, h⟩ <;> first | exact (none_some h).elim | exact absurd hc (by decide) | subst hc | (replace hc := hF_ hc; subst hc) | (replace hc := hG_ hc; subst hc) | (replace hc := hH_ hc; subst hc) | (have hd : (_ == _) = true := hc) | (have hd : (_ == _) = false := hF_ hc) | (have hd := hI_ hc; have he := hJ_ hc; clear hc) | (have hd := hK_ hc; have he := hL_ hc) | (have hd := decide_eq_false hc) | (have hd := decide_eq_true hc; (try (have hn := Int.natCast_pos.mp hc; have hm := decide_eq_true hn; replace hn := eq_true hn)); first | (obtain ⟨g_, e_, i_⟩ := form_ (by assumption) (by first | assumption | decide) hc; cases e_) | (obtain ⟨a_, e_, c_⟩ := atI_ (by assumption) (by first | assumption | decide) hc; cases e_)) | (have hd := decide_eq_true hc) | skip) | ((with_reducible have hj : spec_ActOk.j0 k _ _ _ _ _ _ = _ := h); clear hj; rcases k with _ | k <;> rw [spec_ActOk.j0] at h <;> first | exact (none_some h).elim | skip) | ((with_reducible replace h := bind_set_ h); obtain ⟨hl_, h⟩ := h; replace hl_ := A_ hl_; (try dsimp only at h))))
 all_goals obtain rfl := Option.some.inj h
 all_goals go_ret
 all_goals exact ⟨(by first | rfl | (simp_all; done)), From.out⟩
def spec_MendStep.f (k : Nat) (l0_0 : List (S112)) (a0_1 : Int) (l0_2 : List Int) : Option ((List (S112)) × Int × List Int × Bool) := (spec_l36Copy.f l0_0 a0_1 l0_2).bind fun bt192 => ((spec_WrongSteps.f k l0_0 a0_1 l0_2).bind fun t200 => (if (t200.length : Int) = 0 then (some (bt192.1, bt192.2.1, bt192.2.2, false)) else (if 0 < (t200.length : Int) then (if 0 ≤ (rd t200 0) then (if (rd t200 0) < (l0_0.length : Int) then (if 0 ≤ ((rd_T112 l0_0 (rd t200 0)).f0) then (if ((rd_T112 l0_0 (rd t200 0)).f0) < (l0_2.length : Int) then ((spec_TunedPitch.f k (rd l0_2 ((rd_T112 l0_0 (rd t200 0)).f0)) ((rd_T112 l0_0 (rd t200 0)).f2) ((rd_T112 l0_0 (rd t200 0)).f3)).bind fun t207 => (if t207 = 0 then (some (bt192.1, bt192.2.1, bt192.2.2, false)) else (if 0 ≤ ((rd_T112 l0_0 (rd t200 0)).f1) then (if ((rd_T112 l0_0 (rd t200 0)).f1) < (bt192.2.2.length : Int) then (some (bt192.1, bt192.2.1, (bt192.2.2.set (((rd_T112 l0_0 (rd t200 0)).f1) : Int).toNat t207), true)) else (none)) else (none)))) else (none)) else (none)) else (none)) else (none)) else (none))))
def spec_MendStep.T5 : Bool × List (List Nat × List Nat) := (true, [([], []), ([0], [0]), ([], []), ([2], [2]), ([3], [3]), ([1, 4], [1, 4]), ([5], [5]), ([], []), ([7, 6, 0, 1, 2, 3, 4, 5, 6, 7], [6, 7])])
def spec_MendStep.B5 : List Nat := [0, 1, 0, 4, 12, 31, 63, 0, 255]
theorem spec_MendStep.tab5 : rtab .any (opsOf Tryz.f97 5) = spec_MendStep.T5 := by kernel_rfl
theorem spec_MendStep.bits5 : waitsOk spec_MendStep.T5.2 spec_MendStep.B5 = true := by kernel_rfl
def spec_MendStep.T6 : Bool × List (List Nat × List Nat) := (true, [([], []), ([0], [0]), ([], []), ([2], [2]), ([1, 3], [1, 3]), ([4], [4]), ([], []), ([6], [6]), ([], []), ([8], [8]), ([5, 7, 9], [5, 7, 9]), ([10, 10, 0, 1, 2, 3, 4, 5, 6, 7, 8, 9, 10], [10])])
def spec_MendStep.B6 : List Nat := [0, 1, 0, 4, 15, 31, 0, 64, 0, 256, 1023, 2047]
theorem spec_MendStep.tab6 : rtab .any (opsOf Tryz.f97 6) = spec_MendStep.T6 := by kernel_rfl
theorem spec_MendStep.bits6 : waitsOk spec_MendStep.T6.2 spec_MendStep.B6 = true := by kernel_rfl
theorem spec_MendStep.calls (k : Nat) (A0_0 : Option Addr) (c0_0 : Nat) (l0_0 : List (S112)) (a0_1 : Int) (A0_2 : Option Addr) (c0_2 : Nat) (l0_2 : List Int) (r1 : List (S112)) (r2 : Int) (r3 : List Int) (r4 : Bool) (w : World) (hr0_0 : Kd.C k112 w A0_0 l0_0.length l0_0) (hc0_0 : l0_0.length ≤ c0_0) (hr0_2 : Kd.C (Kd.int .i64) w A0_2 l0_2.length l0_2) (hc0_2 : l0_2.length ≤ c0_2) (h : spec_MendStep.f k l0_0 a0_1 l0_2 = some (r1, r2, r3, r4)) :
  Calls Tryz.prog 97 #[.agg #[.slice A0_0 l0_0.length c0_0, .int .i64 a0_1, .slice A0_2 l0_2.length c0_2]] w fun e w' => ∃ v0_ v2_ : Value, e = .returned (.tuple #[.agg #[v0_, .int .i64 r2, v2_], .bool r4]) ∧ Kd.R k112 112 w' w.heap.size (fun _ => True) v0_ r1 ∧ Kd.R (Kd.int .i64) 3 w' w.heap.size (fun _ => True) v2_ r3 ∧ Below w.heap.size w w' := by
 replace hr0_0 := RdE.mk hr0_0
 replace hc0_0 := LeI.mk hc0_0
 replace hr0_2 := RdE.mk hr0_2
 replace hc0_2 := LeI.mk hc0_2
 have nt112_3 := NeT.mk (d := k112) (e := 112) (t := 3) (by decide)
 have nt112_34 := NeT.mk (d := k112) (e := 112) (t := 34) (by decide)
 unfold spec_MendStep.f at h
 have hu34 := Tryz.underlying34
 have hu112 := Tryz.underlying112
 (repeat' first | ((with_reducible replace h := ite_some h); rcases h with ⟨hc, h⟩ | ⟨hc, h⟩ <;> first | exact (none_some h).elim | exact absurd hc (by decide) | subst hc | (replace hc := hF_ hc; subst hc) | (replace hc := hG_ hc; subst hc) | (replace hc := hH_ hc; subst hc) | (have hd : (_ == _) = true := hc) | (have hd : (_ == _) = false := hF_ hc) | (have hd := hI_ hc; have he := hJ_ hc; clear hc) | (have hd := hK_ hc; have he := hL_ hc) | (have hd := decide_eq_false hc) | (have hd := decide_eq_true hc; (try (have hn := Int.natCast_pos.mp hc; have hm := decide_eq_true hn; replace hn := eq_true hn)); first | (obtain ⟨g_, e_, i_⟩ := form_ (by assumption) (by first | assumption | decide) hc; cases e_) | (obtain ⟨a_, e_, c_⟩ := atI_ (by assumption) (by first | assumption | decide) hc; cases e_) | (obtain ⟨a_, e_, c0_, c1_, c2_, c3_⟩ := at_T112 (RdE.out (self := by assumption)) _ (by first | assumption | decide) hc; cases e_; replace c0_ := CelE.mk c0_; replace c1_ := CelE.mk c1_; replace c2_ := CelE.mk c2_; replace c3_ := CelE.mk c3_)) | (have hd := decide_eq_true hc) | skip) | ((with_reducible replace h := bind_set_ h); obtain ⟨hl_, h⟩ := h; replace hl_ := A_ hl_; (try dsimp only at h)))
 all_goals go_enter Tryz.func97, Tryz.ntmps97
 all_goals go_wp2_with ((first
  | ((with_reducible refine gate_dst (N := 1) rfl ?_); refine bV #[.slice A0_0 l0_0.length c0_0, .int .i64 a0_1, .slice A0_2 l0_2.length c0_2] 34 fun g w1 j1 j2 j3 => ?_)
  | ((with_reducible refine gate_dst (N := 2) rfl ?_); refine bV #[.slice none 0 0, .int .i64 0, .slice none 0 0] 34 fun g w1 j1 j2 j3 => ?_)
  | ((with_reducible refine gate_dst (N := 4) rfl ?_); refine bV #[.slice none 0 0, .int .i64 0, .slice none 0 0] 34 fun g w1 j1 j2 j3 => ?_)
  | (go_at_call 95; (try rw [hl_.out]); replace h := bI h; obtain ⟨⟨t1, t2, t3⟩, A, h⟩ := h; (try dsimp only at h); refine (spec_l36Copy.calls _ _ _ _ _ _ _ _ _ _ _ Rd.out LeI.out Rd.out LeI.out A).mono ?_; rintro e w2 ⟨v0, v1, rfl, ho0, ho1, hb⟩; obtain ⟨B0, b0, rfl, j0, q0⟩ := rowS ho0; obtain ⟨B1, b1, rfl, j1, q1⟩ := rowS ho1; have jb := Bel.mk hb; clear A ho0 ho1 hb)
  | (go_at_call 83; (try rw [hl_.out]); replace h := bI h; obtain ⟨t, A, h⟩ := h; (try dsimp only at h); refine (spec_WrongSteps.calls _ _ _ _ _ _ _ _ _ _ Rd.out LeI.out Rd.out LeI.out A).mono ?_; rintro e w2 ⟨v0, rfl, ho0, hb⟩; obtain ⟨B0, b0, rfl, j0, q0⟩ := rowS ho0; have jb := Bel.mk hb; clear A ho0 hb)
  | (refine qR (id := 5) (ds := []) (l := #[false, false, false, false, false, false, false, false, false]) spec_MendStep.tab5 spec_MendStep.bits5 ?_; intro HT_ HW_ w3 jw u0 iu hHeld; refine qA 0 (some 16) HT_ ?_; refine qA 2 (some 18) HT_ ?_; refine qA 3 (some 19) HT_ ?_; refine qT 1 (some 17) HT_ HW_ hHeld ?_; refine qT 4 (some 20) HT_ HW_ hHeld ?_; refine qA 5 (some 21) HT_ ?_; refine qT 6 (some 22) HT_ HW_ hHeld ?_; refine qB 7 6 #[.int .i64 0, .int .i64 0, .int .i64 0, .int .i64 0] 112 HT_ hHeld fun gx jb1 wx jb2 jb3 hHeld => ?_; refine qS 8 HT_ fun hHeld => ?_; refine qD HT_ ?_)
  | (refine qR (id := 6) (ds := []) (l := #[false, false, false, false, false, false, false, false, false, false, false, false]) spec_MendStep.tab6 spec_MendStep.bits6 ?_; intro HT_ HW_ w3 jw u0 iu hHeld; refine qA 0 (some 23) HT_ ?_; refine qA 2 (some 25) HT_ ?_; refine qA 6 (some 29) HT_ ?_; refine qA 8 (some 31) HT_ ?_; refine qT 1 (some 24) HT_ HW_ hHeld ?_; refine qT 3 (some 26) HT_ HW_ hHeld ?_; refine qA 4 (some 27) HT_ ?_; refine qT 5 (some 28) HT_ HW_ hHeld ?_; refine qT 7 (some 30) HT_ HW_ hHeld ?_; refine qT 9 (some 32) HT_ HW_ hHeld ?_; replace h := bI h; obtain ⟨t, A, h⟩ := h; (try dsimp only at h); refine qC 10 33 Tryz.func122 HT_ fun K hK => ?_; refine (spec_TunedPitch.calls _ _ _ _ _ _ A).mono ?_; rintro e w2 ⟨rfl, hb⟩; have jb := Bel.mk hb; clear A hb; refine ⟨_, rfl, hK _ _ From.out fun hHeld => ?_⟩; clear hK K; refine qN ?_; refine qA 11 (some 7) HT_ ?_; refine qD HT_ ?_)); (repeat' first | ((with_reducible replace h := ite_some h); rcases h with ⟨hc, h⟩ | ⟨hc, h⟩ <;> first | exact (none_some h).elim | exact absurd hc (by decide) | subst hc | (replace hc := hF_ hc; subst hc) | (replace hc := hG_ hc; subst hc) | (replace hc := hH_ hc; subst hc) | (have hd : (_ == _) = true := hc) | (have hd : (_ == _) = false := hF_ hc) | (have hd := hI_ hc; have he := hJ_ hc; clear hc) | (have hd := hK_ hc; have he := hL_ hc) | (have hd := decide_eq_false hc) | (have hd := decide_eq_true hc; (try (have hn := Int.natCast_pos.mp hc; have hm := decide_eq_true hn; replace hn := eq_true hn)); first | (obtain ⟨g_, e_, i_⟩ := form_ (by assumption) (by first | assumption | decide) hc; cases e_) | (obtain ⟨a_, e_, c_⟩ := atI_ (by assumption) (by first | assumption | decide) hc; cases e_) | (obtain ⟨a_, e_, c0_, c1_, c2_, c3_⟩ := at_T112 (RdE.out (self := by assumption)) _ (by first | assumption | decide) hc; cases e_; replace c0_ := CelE.mk c0_; replace c1_ := CelE.mk c1_; replace c2_ := CelE.mk c2_; replace c3_ := CelE.mk c3_)) | (have hd := decide_eq_true hc) | skip) | ((with_reducible replace h := bind_set_ h); obtain ⟨hl_, h⟩ := h; replace hl_ := A_ hl_; (try dsimp only at h))); all_goals (try have hn : decide (0 < t.length) = true := decide_eq_true (by omega)); all_goals (try have hn : decide (0 < t.length) = false := decide_eq_false (by omega)))
 all_goals simp only [Option.some.injEq, Prod.mk.injEq] at h
 all_goals obtain ⟨rfl, rfl, rfl, rfl⟩ := h
 all_goals refine bodyPost_ret (results_ct rfl _ _ _ _ _ (0, 0) _ rfl Blk.out Tryz.underlying34 rfl (by kernel_rfl)) rfl ?_
 all_goals exact ⟨_, _, rfl, (by first | exact rowFin | exact Kd.R_nil _ _ _ _ _ | exact atFin | exact irowFin' (by simp)), (by first | exact rowFin | exact Kd.R_nil _ _ _ _ _ | exact atFin | exact irowFin' (by simp)), From.out⟩
def spec_WorkStep.j0 : Nat → Bool → List (S112) → Int → List Int → List (S112) → Int → List Int → Option ((List (S112)) × Int × List Int × Bool)
 | 0, _, _, _, _, _, _, _ => none
 | k + 1, x19, x210000, x210001, x210002, x219000, x219001, x219002 => if x19 = true then (some (x219000, x219001, x219002, false)) else (if 0 ≤ x210001 then (if x210001 < (x210000.length : Int) then (if 0 ≤ ((rd_T112 x210000 x210001).f0) then (if ((rd_T112 x210000 x210001).f0) < (x210002.length : Int) then ((spec_TunedPitch.f k (rd x210002 ((rd_T112 x210000 x210001).f0)) ((rd_T112 x210000 x210001).f2) ((rd_T112 x210000 x210001).f3)).bind fun t223 => (if t223 = 0 then (some (x219000, x219001, x219002, false)) else (if 0 ≤ ((rd_T112 x210000 x210001).f1) then (if ((rd_T112 x210000 x210001).f1) < (x219002.length : Int) then (some (x219000, wrap64 (x210001 + 1), (x219002.set (((rd_T112 x210000 x210001).f1) : Int).toNat t223), true)) else (none)) else (none)))) else (none)) else (none)) else (none)) else (none))
def spec_WorkStep.f (k : Nat) (l0_0 : List (S112)) (a0_1 : Int) (l0_2 : List Int) : Option ((List (S112)) × Int × List Int × Bool) := (spec_l36Copy.f l0_0 a0_1 l0_2).bind fun bt211 => ((spec_WorkOk.f k l0_0 a0_1 l0_2).bind fun t219 => (if t219 = true then (spec_WorkStep.j0 k (a0_1 == (l0_0.length : Int)) l0_0 a0_1 l0_2 bt211.1 bt211.2.1 bt211.2.2) else (spec_WorkStep.j0 k true l0_0 a0_1 l0_2 bt211.1 bt211.2.1 bt211.2.2)))
def spec_WorkStep.T5 : Bool × List (List Nat × List Nat) := (true, [([], []), ([0], [0]), ([], []), ([2], [2]), ([1, 3], [1, 3]), ([4], [4]), ([], []), ([6], [6]), ([], []), ([8], [8]), ([5, 7, 9], [5, 7, 9]), ([10, 10, 0, 1, 2, 3, 4, 5, 6, 7, 8, 9, 10], [10])])
def spec_WorkStep.B5 : List Nat := [0, 1, 0, 4, 15, 31, 0, 64, 0, 256, 1023, 2047]
theorem spec_WorkStep.tab5 : rtab .any (opsOf Tryz.f98 5) = spec_WorkStep.T5 := by kernel_rfl
theorem spec_WorkStep.bits5 : waitsOk spec_WorkStep.T5.2 spec_WorkStep.B5 = true := by kernel_rfl
theorem spec_WorkStep.calls (k : Nat) (A0_0 : Option Addr) (c0_0 : Nat) (l0_0 : List (S112)) (a0_1 : Int) (A0_2 : Option Addr) (c0_2 : Nat) (l0_2 : List Int) (r1 : List (S112)) (r2 : Int) (r3 : List Int) (r4 : Bool) (w : World) (hr0_0 : Kd.C k112 w A0_0 l0_0.length l0_0) (hc0_0 : l0_0.length ≤ c0_0) (hr0_2 : Kd.C (Kd.int .i64) w A0_2 l0_2.length l0_2) (hc0_2 : l0_2.length ≤ c0_2) (h : spec_WorkStep.f k l0_0 a0_1 l0_2 = some (r1, r2, r3, r4)) :
  Calls Tryz.prog 98 #[.agg #[.slice A0_0 l0_0.length c0_0, .int .i64 a0_1, .slice A0_2 l0_2.length c0_2]] w fun e w' => ∃ v0_ v2_ : Value, e = .returned (.tuple #[.agg #[v0_, .int .i64 r2, v2_], .bool r4]) ∧ Kd.R k112 112 w' w.heap.size (fun _ => True) v0_ r1 ∧ Kd.R (Kd.int .i64) 3 w' w.heap.size (fun _ => True) v2_ r3 ∧ Below w.heap.size w w' := by
 replace hr0_0 := RdE.mk hr0_0
 replace hc0_0 := LeI.mk hc0_0
 replace hr0_2 := RdE.mk hr0_2
 replace hc0_2 := LeI.mk hc0_2
 have nt112_3 := NeT.mk (d := k112) (e := 112) (t := 3) (by decide)
 have nt112_34 := NeT.mk (d := k112) (e := 112) (t := 34) (by decide)
 unfold spec_WorkStep.f at h
 have hu34 := Tryz.underlying34
 have hu112 := Tryz.underlying112
 (repeat' first | ((with_reducible replace h := ite_some h); rcases h with ⟨hc, h⟩ | ⟨hc, h⟩ <;> first | exact (none_some h).elim | exact absurd hc (by decide) | subst hc | (replace hc := hF_ hc; subst hc) | (replace hc := hG_ hc; subst hc) | (replace hc := hH_ hc; subst hc) | (have hd : (_ == _) = true := hc) | (have hd : (_ == _) = false := hF_ hc) | (have hd := hI_ hc; have he := hJ_ hc; clear hc) | (have hd := hK_ hc; have he := hL_ hc) | (have hd := decide_eq_false hc) | (have hd := decide_eq_true hc; (try (have hn := Int.natCast_pos.mp hc; have hm := decide_eq_true hn; replace hn := eq_true hn)); first | (obtain ⟨g_, e_, i_⟩ := form_ (by assumption) (by first | assumption | decide) hc; cases e_) | (obtain ⟨a_, e_, c_⟩ := atI_ (by assumption) (by first | assumption | decide) hc; cases e_) | (obtain ⟨a_, e_, c0_, c1_, c2_, c3_⟩ := at_T112 (RdE.out (self := by assumption)) _ (by first | assumption | decide) hc; cases e_; replace c0_ := CelE.mk c0_; replace c1_ := CelE.mk c1_; replace c2_ := CelE.mk c2_; replace c3_ := CelE.mk c3_)) | (have hd := decide_eq_true hc) | skip) | ((with_reducible have hj : spec_WorkStep.j0 k _ _ _ _ _ _ _ = _ := h); clear hj; rcases k with _ | k <;> rw [spec_WorkStep.j0] at h <;> first | exact (none_some h).elim | skip) | ((with_reducible replace h := bind_set_ h); obtain ⟨hl_, h⟩ := h; replace hl_ := A_ hl_; (try dsimp only at h)))
 all_goals go_enter Tryz.func98, Tryz.ntmps98
 all_goals go_wp2_with ((first
  | ((with_reducible refine gate_dst (N := 1) rfl ?_); refine bV #[.slice A0_0 l0_0.length c0_0, .int .i64 a0_1, .slice A0_2 l0_2.length c0_2] 34 fun g w1 j1 j2 j3 => ?_)
  | ((with_reducible refine gate_dst (N := 2) rfl ?_); refine bV #[.slice none 0 0, .int .i64 0, .slice none 0 0] 34 fun g w1 j1 j2 j3 => ?_)
  | ((with_reducible refine gate_dst (N := 4) rfl ?_); refine bV #[.slice none 0 0, .int .i64 0, .slice none 0 0] 34 fun g w1 j1 j2 j3 => ?_)
  | ((with_reducible refine gate_dst (N := 5) rfl ?_); refine bV #[.int .i64 0, .int .i64 0, .int .i64 0, .int .i64 0] 112 fun g w1 j1 j2 j3 => ?_)
  | (go_at_call 95; (try rw [hl_.out]); replace h := bI h; obtain ⟨⟨t1, t2, t3⟩, A, h⟩ := h; (try dsimp only at h); refine (spec_l36Copy.calls _ _ _ _ _ _ _ _ _ _ _ Rd.out LeI.out Rd.out LeI.out A).mono ?_; rintro e w2 ⟨v0, v1, rfl, ho0, ho1, hb⟩; obtain ⟨B0, b0, rfl, j0, q0⟩ := rowS ho0; obtain ⟨B1, b1, rfl, j1, q1⟩ := rowS ho1; have jb := Bel.mk hb; clear A ho0 ho1 hb)
  | (go_at_call 86; (try rw [hl_.out]); replace h := bI h; obtain ⟨t, A, h⟩ := h; (try dsimp only at h); refine (spec_WorkOk.calls _ _ _ _ _ _ _ _ _ _ Rd.out LeI.out Rd.out LeI.out A).mono ?_; rintro e w2 ⟨rfl, hb⟩; have jb := Bel.mk hb; clear A hb)
  | (refine qR (id := 5) (ds := []) (l := #[false, false, false, false, false, false, false, false, false, false, false, false]) spec_WorkStep.tab5 spec_WorkStep.bits5 ?_; intro HT_ HW_ w3 jw u0 iu hHeld; refine qA 0 (some 27) HT_ ?_; refine qA 2 (some 29) HT_ ?_; refine qA 6 (some 33) HT_ ?_; refine qA 8 (some 35) HT_ ?_; refine qT 1 (some 28) HT_ HW_ hHeld ?_; refine qT 3 (some 30) HT_ HW_ hHeld ?_; refine qA 4 (some 31) HT_ ?_; refine qT 5 (some 32) HT_ HW_ hHeld ?_; refine qT 7 (some 34) HT_ HW_ hHeld ?_; refine qT 9 (some 36) HT_ HW_ hHeld ?_; replace h := bI h; obtain ⟨t, A, h⟩ := h; (try dsimp only at h); refine qC 10 37 Tryz.func122 HT_ fun K hK => ?_; refine (spec_TunedPitch.calls _ _ _ _ _ _ A).mono ?_; rintro e w2 ⟨rfl, hb⟩; have jb := Bel.mk hb; clear A hb; refine ⟨_, rfl, hK _ _ From.out fun hHeld => ?_⟩; clear hK K; refine qN ?_; refine qA 11 (some 6) HT_ ?_; refine qD HT_ ?_)); (repeat' first | ((with_reducible replace h := ite_some h); rcases h with ⟨hc, h⟩ | ⟨hc, h⟩ <;> first | exact (none_some h).elim | exact absurd hc (by decide) | subst hc | (replace hc := hF_ hc; subst hc) | (replace hc := hG_ hc; subst hc) | (replace hc := hH_ hc; subst hc) | (have hd : (_ == _) = true := hc) | (have hd : (_ == _) = false := hF_ hc) | (have hd := hI_ hc; have he := hJ_ hc; clear hc) | (have hd := hK_ hc; have he := hL_ hc) | (have hd := decide_eq_false hc) | (have hd := decide_eq_true hc; (try (have hn := Int.natCast_pos.mp hc; have hm := decide_eq_true hn; replace hn := eq_true hn)); first | (obtain ⟨g_, e_, i_⟩ := form_ (by assumption) (by first | assumption | decide) hc; cases e_) | (obtain ⟨a_, e_, c_⟩ := atI_ (by assumption) (by first | assumption | decide) hc; cases e_) | (obtain ⟨a_, e_, c0_, c1_, c2_, c3_⟩ := at_T112 (RdE.out (self := by assumption)) _ (by first | assumption | decide) hc; cases e_; replace c0_ := CelE.mk c0_; replace c1_ := CelE.mk c1_; replace c2_ := CelE.mk c2_; replace c3_ := CelE.mk c3_)) | (have hd := decide_eq_true hc) | skip) | ((with_reducible have hj : spec_WorkStep.j0 k _ _ _ _ _ _ _ = _ := h); clear hj; rcases k with _ | k <;> rw [spec_WorkStep.j0] at h <;> first | exact (none_some h).elim | skip) | ((with_reducible replace h := bind_set_ h); obtain ⟨hl_, h⟩ := h; replace hl_ := A_ hl_; (try dsimp only at h))))
 all_goals simp only [Option.some.injEq, Prod.mk.injEq] at h
 all_goals obtain ⟨rfl, rfl, rfl, rfl⟩ := h
 all_goals refine bodyPost_ret (results_ct rfl _ _ _ _ _ (0, 0) _ rfl Blk.out Tryz.underlying34 rfl (by kernel_rfl)) rfl ?_
 all_goals exact ⟨_, _, rfl, (by first | exact rowFin | exact Kd.R_nil _ _ _ _ _ | exact atFin | exact irowFin' (by simp)), (by first | exact rowFin | exact Kd.R_nil _ _ _ _ _ | exact atFin | exact irowFin' (by simp)), From.out⟩
def spec_KnockKey.j0 : Nat → Int → Int → Bool → List (S112) → Int → List Int → List (S112) → Int → List Int → Option ((List (S112)) × Int × List Int × Bool)
 | 0, _, _, _, _, _, _, _, _, _ => none
 | k + 1, x1, x2, x31, x353000, x353001, x353002, x362000, x362001, x362002 => if x31 = true then (some (x362000, x362001, x362002, false)) else (if 0 ≤ x1 then (if x1 < (x362002.length : Int) then ((some (x362002.set (x1 : Int).toNat (wrap64 ((rd x362002 x1) + x2)) : List Int)).bind fun y367 => ((spec_WorkOk.f k x362000 x362001 y367).bind fun t368 => (if t368 = true then (some (x362000, x362001, y367, true)) else ((spec_l36Copy.f x353000 x353001 x353002).bind fun bt369 => (some (bt369.1, bt369.2.1, bt369.2.2, false)))))) else (none)) else (none))
def spec_KnockKey.f (k : Nat) (l0_0 : List (S112)) (a0_1 : Int) (l0_2 : List Int) (a1 : Int) (a2 : Int) : Option ((List (S112)) × Int × List Int × Bool) := (spec_l36Copy.f l0_0 a0_1 l0_2).bind fun bt354 => ((spec_WorkOk.f k l0_0 a0_1 l0_2).bind fun t362 => (if t362 = true then ((spec_l01In.f a1 0 11).bind fun t363 => (if t363 = true then ((spec_l01In.f a2 (-100000) 100000).bind fun t364 => (if t364 = true then (if 0 ≤ a1 then (if a1 < (l0_2.length : Int) then (spec_KnockKey.j0 k a1 a2 ((rd l0_2 a1) == 0) l0_0 a0_1 l0_2 bt354.1 bt354.2.1 bt354.2.2) else (none)) else (none)) else (spec_KnockKey.j0 k a1 a2 true l0_0 a0_1 l0_2 bt354.1 bt354.2.1 bt354.2.2))) else (spec_KnockKey.j0 k a1 a2 true l0_0 a0_1 l0_2 bt354.1 bt354.2.1 bt354.2.2))) else (spec_KnockKey.j0 k a1 a2 true l0_0 a0_1 l0_2 bt354.1 bt354.2.1 bt354.2.2)))
def spec_KnockKey.T4 : Bool × List (List Nat × List Nat) := (true, [([], []), ([0], [0]), ([], []), ([], []), ([3], [3]), ([], []), ([4, 5], [4, 5]), ([6], [6]), ([], []), ([7, 8], [7, 8]), ([1, 2, 0, 1, 2, 3, 4, 5, 6, 7, 8, 9], [1, 2]), ([10, 9, 0, 1, 2, 3, 4, 5, 6, 7, 8, 9], [9, 10])])
def spec_KnockKey.B4 : List Nat := [0, 1, 0, 0, 8, 0, 56, 120, 0, 504, 1023, 2047]
theorem spec_KnockKey.tab4 : rtab .any (opsOf Tryz.f100 4) = spec_KnockKey.T4 := by kernel_rfl
theorem spec_KnockKey.bits4 : waitsOk spec_KnockKey.T4.2 spec_KnockKey.B4 = true := by kernel_rfl
theorem spec_KnockKey.calls (k : Nat) (A0_0 : Option Addr) (c0_0 : Nat) (l0_0 : List (S112)) (a0_1 : Int) (A0_2 : Option Addr) (c0_2 : Nat) (l0_2 : List Int) (a1 : Int) (a2 : Int) (r1 : List (S112)) (r2 : Int) (r3 : List Int) (r4 : Bool) (w : World) (hr0_0 : Kd.C k112 w A0_0 l0_0.length l0_0) (hc0_0 : l0_0.length ≤ c0_0) (hr0_2 : Kd.C (Kd.int .i64) w A0_2 l0_2.length l0_2) (hc0_2 : l0_2.length ≤ c0_2) (h : spec_KnockKey.f k l0_0 a0_1 l0_2 a1 a2 = some (r1, r2, r3, r4)) :
  Calls Tryz.prog 100 #[.agg #[.slice A0_0 l0_0.length c0_0, .int .i64 a0_1, .slice A0_2 l0_2.length c0_2], .int .i64 a1, .int .i64 a2] w fun e w' => ∃ v0_ v2_ : Value, e = .returned (.tuple #[.agg #[v0_, .int .i64 r2, v2_], .bool r4]) ∧ Kd.R k112 112 w' w.heap.size (fun _ => True) v0_ r1 ∧ Kd.R (Kd.int .i64) 3 w' w.heap.size (fun _ => True) v2_ r3 ∧ Below w.heap.size w w' := by
 replace hr0_0 := RdE.mk hr0_0
 replace hc0_0 := LeI.mk hc0_0
 replace hr0_2 := RdE.mk hr0_2
 replace hc0_2 := LeI.mk hc0_2
 have nt112_3 := NeT.mk (d := k112) (e := 112) (t := 3) (by decide)
 have nt112_34 := NeT.mk (d := k112) (e := 112) (t := 34) (by decide)
 unfold spec_KnockKey.f at h
 have hu34 := Tryz.underlying34
 (repeat' first | ((with_reducible replace h := ite_some h); rcases h with ⟨hc, h⟩ | ⟨hc, h⟩ <;> first | exact (none_some h).elim | exact absurd hc (by decide) | subst hc | (replace hc := hF_ hc; subst hc) | (replace hc := hG_ hc; subst hc) | (replace hc := hH_ hc; subst hc) | (have hd : (_ == _) = true := hc) | (have hd : (_ == _) = false := hF_ hc) | (have hd := hI_ hc; have he := hJ_ hc; clear hc) | (have hd := hK_ hc; have he := hL_ hc) | (have hd := decide_eq_false hc) | (have hd := decide_eq_true hc; (try (have hn := Int.natCast_pos.mp hc; have hm := decide_eq_true hn; replace hn := eq_true hn)); first | (obtain ⟨g_, e_, i_⟩ := form_ (by assumption) (by first | assumption | decide) hc; cases e_) | (obtain ⟨a_, e_, c_⟩ := atI_ (by assumption) (by first | assumption | decide) hc; cases e_)) | (have hd := decide_eq_true hc) | skip) | ((with_reducible have hj : spec_KnockKey.j0 k _ _ _ _ _ _ _ _ _ = _ := h); clear hj; rcases k with _ | k <;> rw [spec_KnockKey.j0] at h <;> first | exact (none_some h).elim | skip) | ((with_reducible replace h := bind_set_ h); obtain ⟨hl_, h⟩ := h; replace hl_ := A_ hl_; (try dsimp only at h)))
 all_goals go_enter Tryz.func100, Tryz.ntmps100
 all_goals go_wp2_with ((first
  | ((with_reducible refine gate_dst (N := 3) rfl ?_); refine bV #[.slice A0_0 l0_0.length c0_0, .int .i64 a0_1, .slice A0_2 l0_2.length c0_2] 34 fun g w1 j1 j2 j3 => ?_)
  | ((with_reducible refine gate_dst (N := 6) rfl ?_); refine bV #[.slice none 0 0, .int .i64 0, .slice none 0 0] 34 fun g w1 j1 j2 j3 => ?_)
  | ((with_reducible refine gate_dst (N := 8) rfl ?_); refine bV #[.slice none 0 0, .int .i64 0, .slice none 0 0] 34 fun g w1 j1 j2 j3 => ?_)
  | (go_at_call 95; (try rw [hl_.out]); replace h := bI h; obtain ⟨⟨t1, t2, t3⟩, A, h⟩ := h; (try dsimp only at h); refine (spec_l36Copy.calls _ _ _ _ _ _ _ _ _ _ _ Rd.out LeI.out Rd.out LeI.out A).mono ?_; rintro e w2 ⟨v0, v1, rfl, ho0, ho1, hb⟩; obtain ⟨B0, b0, rfl, j0, q0⟩ := rowS ho0; obtain ⟨B1, b1, rfl, j1, q1⟩ := rowS ho1; have jb := Bel.mk hb; clear A ho0 ho1 hb)
  | (go_at_call 86; (try rw [hl_.out]); replace h := bI h; obtain ⟨t, A, h⟩ := h; (try dsimp only at h); refine (spec_WorkOk.calls _ _ _ _ _ _ _ _ _ _ Rd.out LeI.out Rd.out LeI.out A).mono ?_; rintro e w2 ⟨rfl, hb⟩; have jb := Bel.mk hb; clear A hb)
  | (go_at_call 88; (try rw [hl_.out]); replace h := bI h; obtain ⟨t, A, h⟩ := h; (try dsimp only at h); refine (spec_l01In.calls _ _ _ _ _ A).mono ?_; rintro e w2 ⟨rfl, n, rfl⟩; clear A)
  | (refine qR (id := 4) (ds := [11]) (l := #[false, false, false, false, false, false, false, false, false, false, false, false]) spec_KnockKey.tab4 spec_KnockKey.bits4 ?_; intro HT_ HW_ w3 jw u0 iu hHeld; refine qA 0 (some 33) HT_ ?_; refine qA 2 (some 35) HT_ ?_; refine qA 3 (some 36) HT_ ?_; refine qA 5 (some 38) HT_ ?_; refine qA 8 (some 41) HT_ ?_; refine qT 1 (some 34) HT_ HW_ hHeld ?_; refine qT 4 (some 37) HT_ HW_ hHeld ?_; refine qA 6 (some 39) HT_ ?_; refine qT 7 (some 40) HT_ HW_ hHeld ?_; refine qA 9 (some 42) HT_ ?_; refine qA 10 (some 43) HT_ ?_; refine qL 11 HT_ ?_; refine qD HT_ ?_)); (repeat' first | ((with_reducible replace h := ite_some h); rcases h with ⟨hc, h⟩ | ⟨hc, h⟩ <;> first | exact (none_some h).elim | exact absurd hc (by decide) | subst hc | (replace hc := hF_ hc; subst hc) | (replace hc := hG_ hc; subst hc) | (replace hc := hH_ hc; subst hc) | (have hd : (_ == _) = true := hc) | (have hd : (_ == _) = false := hF_ hc) | (have hd := hI_ hc; have he := hJ_ hc; clear hc) | (have hd := hK_ hc; have he := hL_ hc) | (have hd := decide_eq_false hc) | (have hd := decide_eq_true hc; (try (have hn := Int.natCast_pos.mp hc; have hm := decide_eq_true hn; replace hn := eq_true hn)); first | (obtain ⟨g_, e_, i_⟩ := form_ (by assumption) (by first | assumption | decide) hc; cases e_) | (obtain ⟨a_, e_, c_⟩ := atI_ (by assumption) (by first | assumption | decide) hc; cases e_)) | (have hd := decide_eq_true hc) | skip) | ((with_reducible have hj : spec_KnockKey.j0 k _ _ _ _ _ _ _ _ _ = _ := h); clear hj; rcases k with _ | k <;> rw [spec_KnockKey.j0] at h <;> first | exact (none_some h).elim | skip) | ((with_reducible replace h := bind_set_ h); obtain ⟨hl_, h⟩ := h; replace hl_ := A_ hl_; (try dsimp only at h))))
 all_goals simp only [Option.some.injEq, Prod.mk.injEq] at h
 all_goals obtain ⟨rfl, rfl, rfl, rfl⟩ := h
 all_goals refine bodyPost_ret (results_ct rfl _ _ _ _ _ (0, 0) _ rfl Blk.out Tryz.underlying34 rfl (by kernel_rfl)) rfl ?_
 all_goals exact ⟨_, _, rfl, (by first | exact rowFin | exact Kd.R_nil _ _ _ _ _ | exact atFin | exact irowFin' (by simp)), (by first | exact rowFin | exact Kd.R_nil _ _ _ _ _ | exact atFin | exact irowFin' (by simp)), From.out⟩
def impl_WorkStep.j0 : Nat → Bool → List (S112) → Int → List Int → List (S112) → Int → List Int → Option ((List (S112)) × Int × List Int × Bool)
 | 0, _, _, _, _, _, _, _ => none
 | k + 1, x18, x663000, x663001, x663002, x672000, x672001, x672002 => if x18 = true then (some (x672000, x672001, x672002, false)) else ((impl_tunedBy.f k x663000 x663001 x663002 x663001).bind fun t673 => (if t673 = 0 then (some (x672000, x672001, x672002, false)) else (if 0 ≤ x663001 then (if x663001 < (x663000.length : Int) then (if 0 ≤ ((rd_T112 x663000 x663001).f1) then (if ((rd_T112 x663000 x663001).f1) < (x672002.length : Int) then (some (x672000, wrap64 (x672001 + 1), (x672002.set (((rd_T112 x663000 x663001).f1) : Int).toNat t673), true)) else (none)) else (none)) else (none)) else (none))))
def impl_WorkStep.f (k : Nat) (l0_0 : List (S112)) (a0_1 : Int) (l0_2 : List Int) : Option ((List (S112)) × Int × List Int × Bool) := (impl_copyWork.f l0_0 a0_1 l0_2).bind fun bt664 => ((impl_WorkOk.f l0_0 a0_1 l0_2).bind fun t672 => (if t672 = true then (impl_WorkStep.j0 k (a0_1 == (l0_0.length : Int)) l0_0 a0_1 l0_2 bt664.1 bt664.2.1 bt664.2.2) else (impl_WorkStep.j0 k true l0_0 a0_1 l0_2 bt664.1 bt664.2.1 bt664.2.2)))
def impl_WorkStep.T7 : Bool × List (List Nat × List Nat) := (true, [([], []), ([0], [0]), ([], []), ([2], [2]), ([], []), ([4], [4]), ([3, 5], [3, 5]), ([6], [6]), ([7], [7]), ([], []), ([1, 8, 0, 1, 2, 3, 4, 5, 6, 7, 8, 9], [1, 8]), ([10, 9, 0, 1, 2, 3, 4, 5, 6, 7, 8, 9], [9, 10])])
def impl_WorkStep.B7 : List Nat := [0, 1, 0, 4, 0, 16, 60, 124, 252, 0, 1023, 2047]
theorem impl_WorkStep.tab7 : rtab .any (opsOf Tryz.f84 7) = impl_WorkStep.T7 := by kernel_rfl
theorem impl_WorkStep.bits7 : waitsOk impl_WorkStep.T7.2 impl_WorkStep.B7 = true := by kernel_rfl
theorem impl_WorkStep.calls (k : Nat) (A0_0 : Option Addr) (c0_0 : Nat) (l0_0 : List (S112)) (a0_1 : Int) (A0_2 : Option Addr) (c0_2 : Nat) (l0_2 : List Int) (r1 : List (S112)) (r2 : Int) (r3 : List Int) (r4 : Bool) (w : World) (hr0_0 : Kd.C k112 w A0_0 l0_0.length l0_0) (hc0_0 : l0_0.length ≤ c0_0) (hr0_2 : Kd.C (Kd.int .i64) w A0_2 l0_2.length l0_2) (hc0_2 : l0_2.length ≤ c0_2) (h : impl_WorkStep.f k l0_0 a0_1 l0_2 = some (r1, r2, r3, r4)) :
  Calls Tryz.prog 84 #[.agg #[.slice A0_0 l0_0.length c0_0, .int .i64 a0_1, .slice A0_2 l0_2.length c0_2]] w fun e w' => ∃ v0_ v2_ : Value, e = .returned (.tuple #[.agg #[v0_, .int .i64 r2, v2_], .bool r4]) ∧ Kd.R k112 112 w' w.heap.size (fun _ => True) v0_ r1 ∧ Kd.R (Kd.int .i64) 3 w' w.heap.size (fun _ => True) v2_ r3 ∧ Below w.heap.size w w' := by
 replace hr0_0 := RdE.mk hr0_0
 replace hc0_0 := LeI.mk hc0_0
 replace hr0_2 := RdE.mk hr0_2
 replace hc0_2 := LeI.mk hc0_2
 have nt112_3 := NeT.mk (d := k112) (e := 112) (t := 3) (by decide)
 have nt112_34 := NeT.mk (d := k112) (e := 112) (t := 34) (by decide)
 unfold impl_WorkStep.f at h
 have hu34 := Tryz.underlying34
 (repeat' first | ((with_reducible replace h := ite_some h); rcases h with ⟨hc, h⟩ | ⟨hc, h⟩ <;> first | exact (none_some h).elim | exact absurd hc (by decide) | subst hc | (replace hc := hF_ hc; subst hc) | (replace hc := hG_ hc; subst hc) | (replace hc := hH_ hc; subst hc) | (have hd : (_ == _) = true := hc) | (have hd : (_ == _) = false := hF_ hc) | (have hd := hI_ hc; have he := hJ_ hc; clear hc) | (have hd := hK_ hc; have he := hL_ hc) | (have hd := decide_eq_false hc) | (have hd := decide_eq_true hc; (try (have hn := Int.natCast_pos.mp hc; have hm := decide_eq_true hn; replace hn := eq_true hn)); first | (obtain ⟨g_, e_, i_⟩ := form_ (by assumption) (by first | assumption | decide) hc; cases e_) | (obtain ⟨a_, e_, c_⟩ := atI_ (by assumption) (by first | assumption | decide) hc; cases e_) | (obtain ⟨a_, e_, c0_, c1_, c2_, c3_⟩ := at_T112 (RdE.out (self := by assumption)) _ (by first | assumption | decide) hc; cases e_; replace c0_ := CelE.mk c0_; replace c1_ := CelE.mk c1_; replace c2_ := CelE.mk c2_; replace c3_ := CelE.mk c3_)) | (have hd := decide_eq_true hc) | skip) | ((with_reducible have hj : impl_WorkStep.j0 k _ _ _ _ _ _ _ = _ := h); clear hj; rcases k with _ | k <;> rw [impl_WorkStep.j0] at h <;> first | exact (none_some h).elim | skip) | ((with_reducible replace h := bind_set_ h); obtain ⟨hl_, h⟩ := h; replace hl_ := A_ hl_; (try dsimp only at h)))
 all_goals go_enter Tryz.func84, Tryz.ntmps84
 all_goals go_wp2_with ((first
  | ((with_reducible refine gate_dst (N := 1) rfl ?_); refine bV #[.slice A0_0 l0_0.length c0_0, .int .i64 a0_1, .slice A0_2 l0_2.length c0_2] 34 fun g w1 j1 j2 j3 => ?_)
  | ((with_reducible refine gate_dst (N := 2) rfl ?_); refine bV #[.slice none 0 0, .int .i64 0, .slice none 0 0] 34 fun g w1 j1 j2 j3 => ?_)
  | ((with_reducible refine gate_dst (N := 4) rfl ?_); refine bV #[.slice none 0 0, .int .i64 0, .slice none 0 0] 34 fun g w1 j1 j2 j3 => ?_)
  | (go_at_call 106; (try rw [hl_.out]); replace h := bI h; obtain ⟨⟨t1, t2, t3⟩, A, h⟩ := h; (try dsimp only at h); refine (impl_copyWork.calls _ _ _ _ _ _ _ _ _ _ _ Rd.out LeI.out Rd.out LeI.out A).mono ?_; rintro e w2 ⟨v0, v1, rfl, ho0, ho1, hb⟩; obtain ⟨B0, b0, rfl, j0, q0⟩ := rowS ho0; obtain ⟨B1, b1, rfl, j1, q1⟩ := rowS ho1; have jb := Bel.mk hb; clear A ho0 ho1 hb)
  | (go_at_call 76; (try rw [hl_.out]); replace h := bI h; obtain ⟨t, A, h⟩ := h; (try dsimp only at h); refine (impl_WorkOk.calls _ _ _ _ _ _ _ _ _ Rd.out LeI.out Rd.out LeI.out A).mono ?_; rintro e w2 ⟨rfl, hb⟩; have jb := Bel.mk hb; clear A hb)
  | (go_at_call 121; (try rw [hl_.out]); replace h := bI h; obtain ⟨t, A, h⟩ := h; (try dsimp only at h); refine (impl_tunedBy.calls _ _ _ _ _ _ _ _ _ _ _ Rd.out LeI.out Rd.out LeI.out A).mono ?_; rintro e w2 ⟨rfl, hb⟩; have jb := Bel.mk hb; clear A hb)
  | (refine qR (id := 7) (ds := [11]) (l := #[false, false, false, false, false, false, false, false, false, false, false, false]) impl_WorkStep.tab7 impl_WorkStep.bits7 ?_; intro HT_ HW_ w3 jw u0 iu hHeld; refine qA 0 (some 27) HT_ ?_; refine qA 2 (some 29) HT_ ?_; refine qA 4 (some 31) HT_ ?_; refine qA 9 (some 36) HT_ ?_; refine qT 1 (some 28) HT_ HW_ hHeld ?_; refine qT 3 (some 30) HT_ HW_ hHeld ?_; refine qT 5 (some 32) HT_ HW_ hHeld ?_; refine qA 6 (some 33) HT_ ?_; refine qA 7 (some 34) HT_ ?_; refine qT 8 (some 35) HT_ HW_ hHeld ?_; refine qA 10 (some 37) HT_ ?_; refine qL 11 HT_ ?_; refine qD HT_ ?_)); (repeat' first | ((with_reducible replace h := ite_some h); rcases h with ⟨hc, h⟩ | ⟨hc, h⟩ <;> first | exact (none_some h).elim | exact absurd hc (by decide) | subst hc | (replace hc := hF_ hc; subst hc) | (replace hc := hG_ hc; subst hc) | (replace hc := hH_ hc; subst hc) | (have hd : (_ == _) = true := hc) | (have hd : (_ == _) = false := hF_ hc) | (have hd := hI_ hc; have he := hJ_ hc; clear hc) | (have hd := hK_ hc; have he := hL_ hc) | (have hd := decide_eq_false hc) | (have hd := decide_eq_true hc; (try (have hn := Int.natCast_pos.mp hc; have hm := decide_eq_true hn; replace hn := eq_true hn)); first | (obtain ⟨g_, e_, i_⟩ := form_ (by assumption) (by first | assumption | decide) hc; cases e_) | (obtain ⟨a_, e_, c_⟩ := atI_ (by assumption) (by first | assumption | decide) hc; cases e_) | (obtain ⟨a_, e_, c0_, c1_, c2_, c3_⟩ := at_T112 (RdE.out (self := by assumption)) _ (by first | assumption | decide) hc; cases e_; replace c0_ := CelE.mk c0_; replace c1_ := CelE.mk c1_; replace c2_ := CelE.mk c2_; replace c3_ := CelE.mk c3_)) | (have hd := decide_eq_true hc) | skip) | ((with_reducible have hj : impl_WorkStep.j0 k _ _ _ _ _ _ _ = _ := h); clear hj; rcases k with _ | k <;> rw [impl_WorkStep.j0] at h <;> first | exact (none_some h).elim | skip) | ((with_reducible replace h := bind_set_ h); obtain ⟨hl_, h⟩ := h; replace hl_ := A_ hl_; (try dsimp only at h))))
 all_goals simp only [Option.some.injEq, Prod.mk.injEq] at h
 all_goals obtain ⟨rfl, rfl, rfl, rfl⟩ := h
 all_goals refine bodyPost_ret (results_ct rfl _ _ _ _ _ (0, 0) _ rfl Blk.out Tryz.underlying34 rfl (by kernel_rfl)) rfl ?_
 all_goals exact ⟨_, _, rfl, (by first | exact rowFin | exact Kd.R_nil _ _ _ _ _ | exact atFin | exact irowFin' (by simp)), (by first | exact rowFin | exact Kd.R_nil _ _ _ _ _ | exact atFin | exact irowFin' (by simp)), From.out⟩
def impl_MendStep.f (k : Nat) (l0_0 : List (S112)) (a0_1 : Int) (l0_2 : List Int) : Option ((List (S112)) × Int × List Int × Bool) := (impl_copyWork.f l0_0 a0_1 l0_2).bind fun bt678 => ((impl_WrongSteps.f k l0_0 a0_1 l0_2).bind fun t686 => (if (t686.length : Int) = 0 then (some (bt678.1, bt678.2.1, bt678.2.2, false)) else (if 0 < (t686.length : Int) then ((impl_tunedBy.f k l0_0 a0_1 l0_2 (rd t686 0)).bind fun t690 => (if t690 = 0 then (some (bt678.1, bt678.2.1, bt678.2.2, false)) else (if 0 ≤ (rd t686 0) then (if (rd t686 0) < (l0_0.length : Int) then (if 0 ≤ ((rd_T112 l0_0 (rd t686 0)).f1) then (if ((rd_T112 l0_0 (rd t686 0)).f1) < (bt678.2.2.length : Int) then (some (bt678.1, bt678.2.1, (bt678.2.2.set (((rd_T112 l0_0 (rd t686 0)).f1) : Int).toNat t690), true)) else (none)) else (none)) else (none)) else (none)))) else (none))))
def impl_MendStep.T8 : Bool × List (List Nat × List Nat) := (true, [([], []), ([0], [0]), ([], []), ([2], [2]), ([], []), ([4], [4]), ([5], [5]), ([3, 6], [3, 6]), ([7], [7]), ([8], [8]), ([], []), ([1, 9, 0, 1, 2, 3, 4, 5, 6, 7, 8, 9, 10], [1, 9]), ([11, 10, 0, 1, 2, 3, 4, 5, 6, 7, 8, 9, 10], [10, 11])])
def impl_MendStep.B8 : List Nat := [0, 1, 0, 4, 0, 16, 48, 124, 252, 508, 0, 2047, 4095]
theorem impl_MendStep.tab8 : rtab .any (opsOf Tryz.f85 8) = impl_MendStep.T8 := by kernel_rfl
theorem impl_MendStep.bits8 : waitsOk impl_MendStep.T8.2 impl_MendStep.B8 = true := by kernel_rfl
noncomputable def impl_MendStep.T5 : Bool × List (List Nat × List Nat) := rtab .any (opsOf Tryz.f85 5)
def impl_MendStep.B5 : List Nat := [0, 0, 2, 6, 15, 31]
theorem impl_MendStep.tab5 : rtab .any (opsOf Tryz.f85 5) = impl_MendStep.T5 := rfl
theorem impl_MendStep.bits5 : waitsOk impl_MendStep.T5.2 impl_MendStep.B5 = true := by kernel_rfl
theorem impl_MendStep.calls (k : Nat) (A0_0 : Option Addr) (c0_0 : Nat) (l0_0 : List (S112)) (a0_1 : Int) (A0_2 : Option Addr) (c0_2 : Nat) (l0_2 : List Int) (r1 : List (S112)) (r2 : Int) (r3 : List Int) (r4 : Bool) (w : World) (hr0_0 : Kd.C k112 w A0_0 l0_0.length l0_0) (hc0_0 : l0_0.length ≤ c0_0) (hr0_2 : Kd.C (Kd.int .i64) w A0_2 l0_2.length l0_2) (hc0_2 : l0_2.length ≤ c0_2) (h : impl_MendStep.f k l0_0 a0_1 l0_2 = some (r1, r2, r3, r4)) :
  Calls Tryz.prog 85 #[.agg #[.slice A0_0 l0_0.length c0_0, .int .i64 a0_1, .slice A0_2 l0_2.length c0_2]] w fun e w' => ∃ v0_ v2_ : Value, e = .returned (.tuple #[.agg #[v0_, .int .i64 r2, v2_], .bool r4]) ∧ Kd.R k112 112 w' w.heap.size (fun _ => True) v0_ r1 ∧ Kd.R (Kd.int .i64) 3 w' w.heap.size (fun _ => True) v2_ r3 ∧ Below w.heap.size w w' := by
 replace hr0_0 := RdE.mk hr0_0
 replace hc0_0 := LeI.mk hc0_0
 replace hr0_2 := RdE.mk hr0_2
 replace hc0_2 := LeI.mk hc0_2
 have nt112_3 := NeT.mk (d := k112) (e := 112) (t := 3) (by decide)
 have nt112_34 := NeT.mk (d := k112) (e := 112) (t := 34) (by decide)
 unfold impl_MendStep.f at h
 have hu34 := Tryz.underlying34
 (repeat' first | ((with_reducible replace h := ite_some h); rcases h with ⟨hc, h⟩ | ⟨hc, h⟩ <;> first | exact (none_some h).elim | exact absurd hc (by decide) | subst hc | (replace hc := hF_ hc; subst hc) | (replace hc := hG_ hc; subst hc) | (replace hc := hH_ hc; subst hc) | (have hd : (_ == _) = true := hc) | (have hd : (_ == _) = false := hF_ hc) | (have hd := hI_ hc; have he := hJ_ hc; clear hc) | (have hd := hK_ hc; have he := hL_ hc) | (have hd := decide_eq_false hc) | (have hd := decide_eq_true hc; (try (have hn := Int.natCast_pos.mp hc; have hm := decide_eq_true hn; replace hn := eq_true hn)); first | (obtain ⟨g_, e_, i_⟩ := form_ (by assumption) (by first | assumption | decide) hc; cases e_) | (obtain ⟨a_, e_, c_⟩ := atI_ (by assumption) (by first | assumption | decide) hc; cases e_) | (obtain ⟨a_, e_, c0_, c1_, c2_, c3_⟩ := at_T112 (RdE.out (self := by assumption)) _ (by first | assumption | decide) hc; cases e_; replace c0_ := CelE.mk c0_; replace c1_ := CelE.mk c1_; replace c2_ := CelE.mk c2_; replace c3_ := CelE.mk c3_)) | (have hd := decide_eq_true hc) | skip) | ((with_reducible replace h := bind_set_ h); obtain ⟨hl_, h⟩ := h; replace hl_ := A_ hl_; (try dsimp only at h)))
 all_goals go_enter Tryz.func85, Tryz.ntmps85
 all_goals go_wp2_with ((first
  | ((with_reducible refine gate_dst (N := 1) rfl ?_); refine bV #[.slice A0_0 l0_0.length c0_0, .int .i64 a0_1, .slice A0_2 l0_2.length c0_2] 34 fun g w1 j1 j2 j3 => ?_)
  | ((with_reducible refine gate_dst (N := 2) rfl ?_); refine bV #[.slice none 0 0, .int .i64 0, .slice none 0 0] 34 fun g w1 j1 j2 j3 => ?_)
  | ((with_reducible refine gate_dst (N := 4) rfl ?_); refine bV #[.slice none 0 0, .int .i64 0, .slice none 0 0] 34 fun g w1 j1 j2 j3 => ?_)
  | (go_at_call 106; (try rw [hl_.out]); replace h := bI h; obtain ⟨⟨t1, t2, t3⟩, A, h⟩ := h; (try dsimp only at h); refine (impl_copyWork.calls _ _ _ _ _ _ _ _ _ _ _ Rd.out LeI.out Rd.out LeI.out A).mono ?_; rintro e w2 ⟨v0, v1, rfl, ho0, ho1, hb⟩; obtain ⟨B0, b0, rfl, j0, q0⟩ := rowS ho0; obtain ⟨B1, b1, rfl, j1, q1⟩ := rowS ho1; have jb := Bel.mk hb; clear A ho0 ho1 hb)
  | (go_at_call 82; (try rw [hl_.out]); replace h := bI h; obtain ⟨t, A, h⟩ := h; (try dsimp only at h); refine (impl_WrongSteps.calls _ _ _ _ _ _ _ _ _ _ Rd.out LeI.out Rd.out LeI.out A).mono ?_; rintro e w2 ⟨v0, rfl, ho0, hb⟩; obtain ⟨B0, b0, rfl, j0, q0⟩ := rowS ho0; have jb := Bel.mk hb; clear A ho0 hb)
  | (refine qR (id := 5) (ds := []) (l := #[false, false, false, false, false, false]) impl_MendStep.tab5 impl_MendStep.bits5 ?_; intro HT_ HW_ w3 jw u0 iu hHeld; refine qA 1 (some 16) HT_ ?_; refine qA 2 (some 17) HT_ ?_; refine qT 0 (some 15) HT_ HW_ hHeld ?_; refine qT 3 (some 18) HT_ HW_ hHeld ?_; replace h := bI h; obtain ⟨t, A, h⟩ := h; (try dsimp only at h); refine qC 4 19 Tryz.func121 HT_ fun K hK => ?_; refine (impl_tunedBy.calls _ _ _ _ _ _ _ _ _ _ _ Rd.out LeI.out Rd.out LeI.out A).mono ?_; rintro e w2 ⟨rfl, hb⟩; have jb := Bel.mk hb; clear A hb; refine ⟨_, rfl, hK _ _ From.out fun hHeld => ?_⟩; clear hK K; refine qN ?_; refine qA 5 (some 6) HT_ ?_; refine qD HT_ ?_)
  | (refine qR (id := 8) (ds := [12]) (l := #[false, false, false, false, false, false, false, false, false, false, false, false, false]) impl_MendStep.tab8 impl_MendStep.bits8 ?_; intro HT_ HW_ w3 jw u0 iu hHeld; refine qA 0 (some 23) HT_ ?_; refine qA 2 (some 25) HT_ ?_; refine qA 4 (some 27) HT_ ?_; refine qA 5 (some 28) HT_ ?_; refine qA 10 (some 33) HT_ ?_; refine qT 1 (some 24) HT_ HW_ hHeld ?_; refine qT 3 (some 26) HT_ HW_ hHeld ?_; refine qT 6 (some 29) HT_ HW_ hHeld ?_; refine qA 7 (some 30) HT_ ?_; refine qA 8 (some 31) HT_ ?_; refine qT 9 (some 32) HT_ HW_ hHeld ?_; refine qA 11 (some 34) HT_ ?_; refine qL 12 HT_ ?_; refine qD HT_ ?_)); (repeat' first | ((with_reducible replace h := ite_some h); rcases h with ⟨hc, h⟩ | ⟨hc, h⟩ <;> first | exact (none_some h).elim | exact absurd hc (by decide) | subst hc | (replace hc := hF_ hc; subst hc) | (replace hc := hG_ hc; subst hc) | (replace hc := hH_ hc; subst hc) | (have hd : (_ == _) = true := hc) | (have hd : (_ == _) = false := hF_ hc) | (have hd := hI_ hc; have he := hJ_ hc; clear hc) | (have hd := hK_ hc; have he := hL_ hc) | (have hd := decide_eq_false hc) | (have hd := decide_eq_true hc; (try (have hn := Int.natCast_pos.mp hc; have hm := decide_eq_true hn; replace hn := eq_true hn)); first | (obtain ⟨g_, e_, i_⟩ := form_ (by assumption) (by first | assumption | decide) hc; cases e_) | (obtain ⟨a_, e_, c_⟩ := atI_ (by assumption) (by first | assumption | decide) hc; cases e_) | (obtain ⟨a_, e_, c0_, c1_, c2_, c3_⟩ := at_T112 (RdE.out (self := by assumption)) _ (by first | assumption | decide) hc; cases e_; replace c0_ := CelE.mk c0_; replace c1_ := CelE.mk c1_; replace c2_ := CelE.mk c2_; replace c3_ := CelE.mk c3_)) | (have hd := decide_eq_true hc) | skip) | ((with_reducible replace h := bind_set_ h); obtain ⟨hl_, h⟩ := h; replace hl_ := A_ hl_; (try dsimp only at h))); all_goals (try have hn : decide (0 < t.length) = true := decide_eq_true (by omega)); all_goals (try have hn : decide (0 < t.length) = false := decide_eq_false (by omega)))
 all_goals simp only [Option.some.injEq, Prod.mk.injEq] at h
 all_goals obtain ⟨rfl, rfl, rfl, rfl⟩ := h
 all_goals refine bodyPost_ret (results_ct rfl _ _ _ _ _ (0, 0) _ rfl Blk.out Tryz.underlying34 rfl (by kernel_rfl)) rfl ?_
 all_goals exact ⟨_, _, rfl, (by first | exact rowFin | exact Kd.R_nil _ _ _ _ _ | exact atFin | exact irowFin' (by simp)), (by first | exact rowFin | exact Kd.R_nil _ _ _ _ _ | exact atFin | exact irowFin' (by simp)), From.out⟩
def impl_KnockKey.j0 : Nat → Int → Int → Bool → List (S112) → Int → List Int → List (S112) → Int → List Int → Option ((List (S112)) × Int × List Int × Bool)
 | 0, _, _, _, _, _, _, _, _, _ => none
 | k + 1, x1, x2, x31, x828000, x828001, x828002, x837000, x837001, x837002 => if x31 = true then (some (x837000, x837001, x837002, false)) else (if 0 ≤ x1 then (if x1 < (x837002.length : Int) then ((some (x837002.set (x1 : Int).toNat (wrap64 ((rd x837002 x1) + x2)) : List Int)).bind fun y842 => ((impl_WorkOk.f x837000 x837001 y842).bind fun t843 => (if t843 = true then (some (x837000, x837001, y842, true)) else ((impl_copyWork.f x828000 x828001 x828002).bind fun bt844 => (some (bt844.1, bt844.2.1, bt844.2.2, false)))))) else (none)) else (none))
def impl_KnockKey.f (k : Nat) (l0_0 : List (S112)) (a0_1 : Int) (l0_2 : List Int) (a1 : Int) (a2 : Int) : Option ((List (S112)) × Int × List Int × Bool) := (impl_copyWork.f l0_0 a0_1 l0_2).bind fun bt829 => ((impl_WorkOk.f l0_0 a0_1 l0_2).bind fun t837 => (if t837 = true then ((impl_within.f a1 0 11).bind fun t838 => (if t838 = true then (if 0 ≤ a1 then (if a1 < (l0_2.length : Int) then (if (rd l0_2 a1) = 0 then (impl_KnockKey.j0 k a1 a2 true l0_0 a0_1 l0_2 bt829.1 bt829.2.1 bt829.2.2) else ((impl_within.f a2 (-100000) 100000).bind fun t840 => (impl_KnockKey.j0 k a1 a2 (!t840) l0_0 a0_1 l0_2 bt829.1 bt829.2.1 bt829.2.2))) else (none)) else (none)) else (impl_KnockKey.j0 k a1 a2 true l0_0 a0_1 l0_2 bt829.1 bt829.2.1 bt829.2.2))) else (impl_KnockKey.j0 k a1 a2 true l0_0 a0_1 l0_2 bt829.1 bt829.2.1 bt829.2.2)))
def impl_KnockKey.T4 : Bool × List (List Nat × List Nat) := (true, [([], []), ([0], [0]), ([], []), ([], []), ([3], [3]), ([], []), ([4, 5], [4, 5]), ([6], [6]), ([], []), ([7, 8], [7, 8]), ([1, 2, 0, 1, 2, 3, 4, 5, 6, 7, 8, 9], [1, 2]), ([10, 9, 0, 1, 2, 3, 4, 5, 6, 7, 8, 9], [9, 10])])
def impl_KnockKey.B4 : List Nat := [0, 1, 0, 0, 8, 0, 56, 120, 0, 504, 1023, 2047]
theorem impl_KnockKey.tab4 : rtab .any (opsOf Tryz.f109 4) = impl_KnockKey.T4 := by kernel_rfl
theorem impl_KnockKey.bits4 : waitsOk impl_KnockKey.T4.2 impl_KnockKey.B4 = true := by kernel_rfl
theorem impl_KnockKey.calls (k : Nat) (A0_0 : Option Addr) (c0_0 : Nat) (l0_0 : List (S112)) (a0_1 : Int) (A0_2 : Option Addr) (c0_2 : Nat) (l0_2 : List Int) (a1 : Int) (a2 : Int) (r1 : List (S112)) (r2 : Int) (r3 : List Int) (r4 : Bool) (w : World) (hr0_0 : Kd.C k112 w A0_0 l0_0.length l0_0) (hc0_0 : l0_0.length ≤ c0_0) (hr0_2 : Kd.C (Kd.int .i64) w A0_2 l0_2.length l0_2) (hc0_2 : l0_2.length ≤ c0_2) (h : impl_KnockKey.f k l0_0 a0_1 l0_2 a1 a2 = some (r1, r2, r3, r4)) :
  Calls Tryz.prog 109 #[.agg #[.slice A0_0 l0_0.length c0_0, .int .i64 a0_1, .slice A0_2 l0_2.length c0_2], .int .i64 a1, .int .i64 a2] w fun e w' => ∃ v0_ v2_ : Value, e = .returned (.tuple #[.agg #[v0_, .int .i64 r2, v2_], .bool r4]) ∧ Kd.R k112 112 w' w.heap.size (fun _ => True) v0_ r1 ∧ Kd.R (Kd.int .i64) 3 w' w.heap.size (fun _ => True) v2_ r3 ∧ Below w.heap.size w w' := by
 replace hr0_0 := RdE.mk hr0_0
 replace hc0_0 := LeI.mk hc0_0
 replace hr0_2 := RdE.mk hr0_2
 replace hc0_2 := LeI.mk hc0_2
 have nt112_3 := NeT.mk (d := k112) (e := 112) (t := 3) (by decide)
 have nt112_34 := NeT.mk (d := k112) (e := 112) (t := 34) (by decide)
 unfold impl_KnockKey.f at h
 have hu34 := Tryz.underlying34
 (repeat' first | ((with_reducible replace h := ite_some h); rcases h with ⟨hc, h⟩ | ⟨hc, h⟩ <;> first | exact (none_some h).elim | exact absurd hc (by decide) | subst hc | (replace hc := hF_ hc; subst hc) | (replace hc := hG_ hc; subst hc) | (replace hc := hH_ hc; subst hc) | (have hd : (_ == _) = true := hc) | (have hd : (_ == _) = false := hF_ hc) | (have hd := hI_ hc; have he := hJ_ hc; clear hc) | (have hd := hK_ hc; have he := hL_ hc) | (have hd := decide_eq_false hc) | (have hd := decide_eq_true hc; (try (have hn := Int.natCast_pos.mp hc; have hm := decide_eq_true hn; replace hn := eq_true hn)); first | (obtain ⟨g_, e_, i_⟩ := form_ (by assumption) (by first | assumption | decide) hc; cases e_) | (obtain ⟨a_, e_, c_⟩ := atI_ (by assumption) (by first | assumption | decide) hc; cases e_)) | (have hd := decide_eq_true hc) | skip) | ((with_reducible have hj : impl_KnockKey.j0 k _ _ _ _ _ _ _ _ _ = _ := h); clear hj; rcases k with _ | k <;> rw [impl_KnockKey.j0] at h <;> first | exact (none_some h).elim | skip) | ((with_reducible replace h := bind_set_ h); obtain ⟨hl_, h⟩ := h; replace hl_ := A_ hl_; (try dsimp only at h)))
 all_goals go_enter Tryz.func109, Tryz.ntmps109
 all_goals go_wp2_with ((first
  | ((with_reducible refine gate_dst (N := 3) rfl ?_); refine bV #[.slice A0_0 l0_0.length c0_0, .int .i64 a0_1, .slice A0_2 l0_2.length c0_2] 34 fun g w1 j1 j2 j3 => ?_)
  | ((with_reducible refine gate_dst (N := 6) rfl ?_); refine bV #[.slice none 0 0, .int .i64 0, .slice none 0 0] 34 fun g w1 j1 j2 j3 => ?_)
  | ((with_reducible refine gate_dst (N := 8) rfl ?_); refine bV #[.slice none 0 0, .int .i64 0, .slice none 0 0] 34 fun g w1 j1 j2 j3 => ?_)
  | (go_at_call 106; (try rw [hl_.out]); replace h := bI h; obtain ⟨⟨t1, t2, t3⟩, A, h⟩ := h; (try dsimp only at h); refine (impl_copyWork.calls _ _ _ _ _ _ _ _ _ _ _ Rd.out LeI.out Rd.out LeI.out A).mono ?_; rintro e w2 ⟨v0, v1, rfl, ho0, ho1, hb⟩; obtain ⟨B0, b0, rfl, j0, q0⟩ := rowS ho0; obtain ⟨B1, b1, rfl, j1, q1⟩ := rowS ho1; have jb := Bel.mk hb; clear A ho0 ho1 hb)
  | (go_at_call 76; (try rw [hl_.out]); replace h := bI h; obtain ⟨t, A, h⟩ := h; (try dsimp only at h); refine (impl_WorkOk.calls _ _ _ _ _ _ _ _ _ Rd.out LeI.out Rd.out LeI.out A).mono ?_; rintro e w2 ⟨rfl, hb⟩; have jb := Bel.mk hb; clear A hb)
  | (go_at_call 79; (try rw [hl_.out]); replace h := bI h; obtain ⟨t, A, h⟩ := h; (try dsimp only at h); refine (impl_within.calls _ _ _ _ _ A).mono ?_; rintro e w2 ⟨rfl, n, rfl⟩; clear A)
  | (refine qR (id := 4) (ds := [11]) (l := #[false, false, false, false, false, false, false, false, false, false, false, false]) impl_KnockKey.tab4 impl_KnockKey.bits4 ?_; intro HT_ HW_ w3 jw u0 iu hHeld; refine qA 0 (some 33) HT_ ?_; refine qA 2 (some 35) HT_ ?_; refine qA 3 (some 36) HT_ ?_; refine qA 5 (some 38) HT_ ?_; refine qA 8 (some 41) HT_ ?_; refine qT 1 (some 34) HT_ HW_ hHeld ?_; refine qT 4 (some 37) HT_ HW_ hHeld ?_; refine qA 6 (some 39) HT_ ?_; refine qT 7 (some 40) HT_ HW_ hHeld ?_; refine qA 9 (some 42) HT_ ?_; refine qA 10 (some 43) HT_ ?_; refine qL 11 HT_ ?_; refine qD HT_ ?_)); (repeat' first | ((with_reducible replace h := ite_some h); rcases h with ⟨hc, h⟩ | ⟨hc, h⟩ <;> first | exact (none_some h).elim | exact absurd hc (by decide) | subst hc | (replace hc := hF_ hc; subst hc) | (replace hc := hG_ hc; subst hc) | (replace hc := hH_ hc; subst hc) | (have hd : (_ == _) = true := hc) | (have hd : (_ == _) = false := hF_ hc) | (have hd := hI_ hc; have he := hJ_ hc; clear hc) | (have hd := hK_ hc; have he := hL_ hc) | (have hd := decide_eq_false hc) | (have hd := decide_eq_true hc; (try (have hn := Int.natCast_pos.mp hc; have hm := decide_eq_true hn; replace hn := eq_true hn)); first | (obtain ⟨g_, e_, i_⟩ := form_ (by assumption) (by first | assumption | decide) hc; cases e_) | (obtain ⟨a_, e_, c_⟩ := atI_ (by assumption) (by first | assumption | decide) hc; cases e_)) | (have hd := decide_eq_true hc) | skip) | ((with_reducible have hj : impl_KnockKey.j0 k _ _ _ _ _ _ _ _ _ = _ := h); clear hj; rcases k with _ | k <;> rw [impl_KnockKey.j0] at h <;> first | exact (none_some h).elim | skip) | ((with_reducible replace h := bind_set_ h); obtain ⟨hl_, h⟩ := h; replace hl_ := A_ hl_; (try dsimp only at h))))
 all_goals simp only [Option.some.injEq, Prod.mk.injEq] at h
 all_goals obtain ⟨rfl, rfl, rfl, rfl⟩ := h
 all_goals refine bodyPost_ret (results_ct rfl _ _ _ _ _ (0, 0) _ rfl Blk.out Tryz.underlying34 rfl (by kernel_rfl)) rfl ?_
 all_goals exact ⟨_, _, rfl, (by first | exact rowFin | exact Kd.R_nil _ _ _ _ _ | exact atFin | exact irowFin' (by simp)), (by first | exact rowFin | exact Kd.R_nil _ _ _ _ _ | exact atFin | exact irowFin' (by simp)), From.out⟩
end Go.Proofs.YtanhnhkcpbdfmaaGreat.P
namespace Go.Proofs.YtanhnhkcpbdfmaaGreat.Q
open Go.RowKit Go.Proofs.YtanhnhkcpbdfmaaGreat.P Go.Proofs.YtanhnhkcpbdfmaaGreatW.PrintWords Go.Proofs.YtanhnhkcpbdfmaaGreatW.PrintMore
def knocked (q : List Int) (c x : Int) : List Int := q.set c.toNat (wrap64 (q.getD c.toNat 0 + x))
def knockKey (p : List S112) (d : Int) (q : List Int) (c x : Int) : List S112 × Int × List Int × Bool :=
  if workOk p d q = true ∧ (0 ≤ c ∧ c ≤ 11) ∧ (-100000 ≤ x ∧ x ≤ 100000) ∧ q.getD c.toNat 0 ≠ 0 then
    if workOk p d (knocked q c x) = true then (p, d, knocked q c x, true) else (p, d, q, false)
  else (p, d, q, false)
theorem knock_impl (p : List S112) (d : Int) (q : List Int) (c x : Int) (hp : p.length ≤ 4000000) (hq : q.length ≤ 4000000) : Ev (fun n => impl_KnockKey.f n p d q c x) (knockKey p d q c x) := by
  have jt : Ev (fun n => impl_KnockKey.j0 n c x true p d q p d q) (p, d, q, false) := Ev.step (fun n => by rw [impl_KnockKey.j0]) (evp rfl (Ev.now _))
  unfold impl_KnockKey.f knockKey
  refine evb (copyWork_eq p d q hp hq) (evb (workImpl_eq p d q) ?_)
  by_cases h : workOk p d q = true
  rotate_left
  · exact rneg (fun h2 => h h2.1) <| evn h jt
  have hl := workOk_len h
  refine evp h (evb (within_eq _ _ _) ?_)
  by_cases hc : 0 ≤ c ∧ c ≤ 11
  rotate_left
  · exact rneg (fun h2 => hc h2.2.1) <| evn (bfalse hc) jt
  refine evp (btrue hc) (evp hc.1 (evp (by omega) ?_))
  rw [rd_get]
  by_cases hz : q.getD c.toNat 0 = 0
  · exact rneg (fun h2 => h2.2.2.2 hz) <| evp hz jt
  refine evn hz (evb (within_eq _ _ _) ?_)
  by_cases hx : -100000 ≤ x ∧ x ≤ 100000
  rotate_left
  · rw [decide_eq_false hx]; exact rneg (fun h2 => hx h2.2.2.1) jt
  rw [decide_eq_true hx]
  refine rpos ⟨h, hc, hx, hz⟩ ?_
  refine Ev.step (fun n => by rw [impl_KnockKey.j0]) ?_
  refine evn (by decide) (evp hc.1 (evp (by show c < (q.length : Int); omega) ?_))
  simp only [Option.bind_some, rd_get]
  refine evb (workImpl_eq p d _) ?_
  by_cases h3 : workOk p d (knocked q c x) = true
  · exact rpos h3 <| evp h3 (Ev.now _)
  · exact rneg h3 <| evn h3 (evb (copyWork_eq p d q hp hq) (Ev.now _))
theorem knock_spec (p : List S112) (d : Int) (q : List Int) (c x : Int) (hp : p.length ≤ 4000000) (hq : q.length ≤ 4000000) : Ev (fun n => spec_KnockKey.f n p d q c x) (knockKey p d q c x) := by
  have jt : Ev (fun n => spec_KnockKey.j0 n c x true p d q p d q) (p, d, q, false) := Ev.step (fun n => by rw [spec_KnockKey.j0]) (evp rfl (Ev.now _))
  unfold spec_KnockKey.f knockKey
  refine evb (l36Copy_eq p d q hp hq) (Ev.bind (workOk_spec p d q) ?_)
  by_cases h : workOk p d q = true
  rotate_left
  · exact rneg (fun h2 => h h2.1) <| evn h jt
  have hl := workOk_len h
  refine evp h (evb (l01In_eq _ _ _) ?_)
  by_cases hc : 0 ≤ c ∧ c ≤ 11
  rotate_left
  · exact rneg (fun h2 => hc h2.2.1) <| evn (bfalse hc) jt
  refine evp (btrue hc) (evb (l01In_eq _ _ _) ?_)
  by_cases hx : -100000 ≤ x ∧ x ≤ 100000
  rotate_left
  · exact rneg (fun h2 => hx h2.2.2.1) <| evn (bfalse hx) jt
  refine evp (btrue hx) (evp hc.1 (evp (by omega) ?_))
  rw [rd_get]
  by_cases hz : q.getD c.toNat 0 = 0
  · rw [show (q.getD c.toNat 0 == 0) = true by rw [hz]; rfl]; exact rneg (fun h2 => h2.2.2.2 hz) jt
  rw [show (q.getD c.toNat 0 == 0) = false from beq_eq_false_iff_ne.mpr hz]
  refine rpos ⟨h, hc, hx, hz⟩ ?_
  refine Ev.step (fun n => by rw [spec_KnockKey.j0]) ?_
  refine evn (by decide) (evp hc.1 (evp (by show c < (q.length : Int); omega) ?_))
  simp only [Option.bind_some, rd_get]
  refine Ev.bind (workOk_spec p d _) ?_
  by_cases h3 : workOk p d (knocked q c x) = true
  · exact rpos h3 <| evp h3 (Ev.now _)
  · exact rneg h3 <| evn h3 (evb (l36Copy_eq p d q hp hq) (Ev.now _))
theorem knockKey_len (p : List S112) (d : Int) (q : List Int) (c x : Int) : (knockKey p d q c x).1 = p ∧ (knockKey p d q c x).2.2.1.length = q.length := by
  unfold knockKey; split
  · split
    · exact ⟨rfl, by simp [knocked]⟩
    · exact ⟨rfl, rfl⟩
  · exact ⟨rfl, rfl⟩
def isBad (p : List S112) (q : List Int) (i : Nat) : Bool := decide (q.getD (p.getD i z112).f1.toNat 0 ≠ tuneAt p q i)
def wrongs (p : List S112) (q : List Int) (l : List Nat) : List Int := (l.filter (isBad p q)).map (fun (i : Nat) => (i : Int))
def wrongSteps (p : List S112) (d : Int) (q : List Int) : List Int := if workOk p d q = true then wrongs p q (List.range d.toNat) else []
theorem wrongs_cons (p : List S112) (q : List Int) (i : Nat) (l : List Nat) : wrongs p q (i :: l) = if isBad p q i = true then (i : Int) :: wrongs p q l else wrongs p q l := by
  unfold wrongs; rw [List.filter_cons]; split <;> rfl
theorem wrong_impl (p : List S112) (d : Int) (q : List Int) : Ev (fun n => impl_WrongSteps.f n p d q) (wrongSteps p d q) := by
  unfold impl_WrongSteps.f wrongSteps
  refine evb (workImpl_eq p d q) ?_
  by_cases h : workOk p d q = true
  rotate_left
  · exact rneg h <| evn h (Ev.now _)
  have hp := workOk_plan h; have hd := workOk_done h; have hq := workOk_len h; have hl := planOk_len hp
  obtain ⟨m, rfl⟩ := Int.eq_ofNat_of_zero_le hd.1
  refine rpos h <| evp h (evp hd.1 (evp hd.2 ?_))
  simp only [Option.bind_some, Int.toNat_natCast]
  have key : ∀ i, i ≤ m → ∀ acc : List Int, acc.length ≤ i → Ev (fun n => impl_WrongSteps.l0 n acc (p.take m) ((p.take m).length : Int) (i : Int) p m q) (acc ++ wrongs p q ((List.range m).drop i)) := by
    refine down (n := m) ?_ ?_
    · intro acc ha
      refine Ev.step (fun n => by rw [impl_WrongSteps.l0]) (evn (by rw [List.length_take]; omega) (evs ?_))
      rw [List.drop_eq_nil_of_le (by simp)]; simp [wrongs]
    · intro i hi ih acc ha
      obtain ⟨k0, k1, k2, k3, k4⟩ := planOk_in hp p[i] (List.getElem_mem (by omega))
      have e : (p.take m)[i]'(by rw [List.length_take]; omega) = p[i] := by simp
      refine Ev.step (fun n => by rw [impl_WrongSteps.l0]) ?_
      refine evp (by rw [List.length_take]; omega) (evp (by omega) (evp (by rw [List.length_take]; omega) ?_))
      rw [rdS (p.take m) i (by rw [List.length_take]; omega), e]
      refine evp k2 (evp (by omega) (Ev.bind (tunedBy_ev p _ q i hp hq (by omega)) ?_))
      rw [drop_cons _ i (by simpa using hi), List.getElem_range, rd_get, w64 (n := (i : Int) + 1) (by omega) (by omega)]
      have g := getS p i (by omega)
      have eb : isBad p q i = decide (q.getD p[i].f1.toNat 0 ≠ tuneAt p q i) := by unfold isBad; rw [g]
      by_cases hb : q.getD p[i].f1.toNat 0 = tuneAt p q i
      · rw [show wrongs p q (i :: (List.range m).drop (i + 1)) = wrongs p q ((List.range m).drop (i + 1)) by rw [wrongs_cons, eb, if_neg (by simp only [decide_eq_true_eq]; exact fun h => h hb)]]
        refine evp hb ?_
        exact ih acc (by omega)
      · rw [show wrongs p q (i :: (List.range m).drop (i + 1)) = (i : Int) :: wrongs p q ((List.range m).drop (i + 1)) by rw [wrongs_cons, eb, if_pos (by simp only [decide_eq_true_eq]; exact hb)]]
        refine evn hb (evp (by omega) ?_)
        have := ih (acc ++ [(i : Int)]) (by simp; omega)
        rw [List.append_assoc] at this
        exact this
  have := key 0 (Nat.zero_le _) [] (Nat.le_refl _)
  simpa using this
theorem wrong_spec (p : List S112) (d : Int) (q : List Int) : Ev (fun n => spec_WrongSteps.f n p d q) (wrongSteps p d q) := by
  unfold spec_WrongSteps.f wrongSteps
  simp only [Option.bind_some]
  refine Ev.bind (workOk_spec p d q) ?_
  by_cases h : workOk p d q = true
  rotate_left
  · exact rneg h <| evn h (Ev.now _)
  have hp := workOk_plan h; have hd := workOk_done h; have hq := workOk_len h; have hl := planOk_len hp
  obtain ⟨m, rfl⟩ := Int.eq_ofNat_of_zero_le hd.1
  refine rpos h <| evp h ?_
  simp only [Int.toNat_natCast]
  have key : ∀ i, i ≤ m → ∀ acc : List Int, acc.length ≤ i → Ev (fun n => spec_WrongSteps.l0 n acc (i : Int) p m q) (acc ++ wrongs p q ((List.range m).drop i)) := by
    refine down (n := m) ?_ ?_
    · intro acc ha
      refine Ev.step (fun n => by rw [spec_WrongSteps.l0]) (evn (by omega) (evs ?_))
      rw [List.drop_eq_nil_of_le (by simp)]; simp [wrongs]
    · intro i hi ih acc ha
      obtain ⟨k0, k1, k2, k3, k4⟩ := planOk_in hp p[i] (List.getElem_mem (by omega))
      refine Ev.step (fun n => by rw [spec_WrongSteps.l0]) ?_
      refine evp (by omega) (evp (by omega) (evp (by omega) ?_))
      rw [rdS p i (by omega)]
      refine evp k2 (evp (by omega) (evp k0 (evp (by omega) (Ev.bind (tuned_spec _ _ _) ?_))))
      rw [drop_cons _ i (by simpa using hi), List.getElem_range, rd_get, rd_get, w64 (n := (i : Int) + 1) (by omega) (by omega)]
      have g := getS p i (by omega)
      have eb : isBad p q i = decide (q.getD p[i].f1.toNat 0 ≠ tuneAt p q i) := by unfold isBad; rw [g]
      by_cases hb : q.getD p[i].f1.toNat 0 = tuneAt p q i
      · rw [show wrongs p q (i :: (List.range m).drop (i + 1)) = wrongs p q ((List.range m).drop (i + 1)) by rw [wrongs_cons, eb, if_neg (by simp only [decide_eq_true_eq]; exact fun h => h hb)]]
        refine evp (by rw [hb]; unfold tuneAt; rw [g]) ?_
        exact ih acc (by omega)
      · rw [show wrongs p q (i :: (List.range m).drop (i + 1)) = (i : Int) :: wrongs p q ((List.range m).drop (i + 1)) by rw [wrongs_cons, eb, if_pos (by simp only [decide_eq_true_eq]; exact hb)]]
        refine evn (by unfold tuneAt at hb; rw [g] at hb; exact hb) (evp (by omega) ?_)
        have := ih (acc ++ [(i : Int)]) (by simp; omega)
        rw [List.append_assoc] at this
        exact this
  have := key 0 (Nat.zero_le _) [] (Nat.le_refl _)
  simpa using this
def mendStep (p : List S112) (d : Int) (q : List Int) : List S112 × Int × List Int × Bool :=
  match wrongSteps p d q with
  | [] => (p, d, q, false)
  | i :: _ => if tuneAt p q i.toNat = 0 then (p, d, q, false) else (p, d, q.set (p.getD i.toNat z112).f1.toNat (tuneAt p q i.toNat), true)
theorem wrongSteps_head {p : List S112} {d : Int} {q : List Int} {i : Int} {r : List Int} (h : wrongSteps p d q = i :: r) : workOk p d q = true ∧ ∃ j : Nat, i = j ∧ (j : Int) < d ∧ j < p.length := by
  unfold wrongSteps at h
  by_cases hw : workOk p d q = true
  rotate_left
  · rw [if_neg hw] at h; exact absurd h (by simp)
  rw [if_pos hw] at h
  refine ⟨hw, ?_⟩
  have hi : i ∈ wrongs p q (List.range d.toNat) := by rw [h]; exact List.mem_cons_self
  unfold wrongs at hi
  obtain ⟨j, hj, rfl⟩ := List.mem_map.1 hi
  have hd := workOk_done hw
  have := List.mem_range.1 (List.mem_filter.1 hj).1
  exact ⟨j, rfl, by omega, by omega⟩
theorem mend_impl (p : List S112) (d : Int) (q : List Int) (hp : p.length ≤ 4000000) (hq : q.length ≤ 4000000) : Ev (fun n => impl_MendStep.f n p d q) (mendStep p d q) := by
  unfold impl_MendStep.f mendStep
  refine evb (copyWork_eq p d q hp hq) (Ev.bind (wrong_impl p d q) ?_)
  cases h : wrongSteps p d q with
  | nil => exact evp rfl (Ev.now _)
  | cons i r =>
    obtain ⟨hw, j, rfl, hj, hj2⟩ := wrongSteps_head h
    have hp := workOk_plan hw; have hq := workOk_len hw
    obtain ⟨k0, k1, k2, k3, k4⟩ := planOk_in hp p[j] (List.getElem_mem hj2)
    refine evn (by simp; omega) (evp (by simp) ?_)
    rw [show rd ((j : Int) :: r) 0 = (j : Int) from rfl]
    refine Ev.bind (tunedBy_ev p d q j hp hq hj2) ?_
    simp only [Int.toNat_natCast]
    by_cases hz : tuneAt p q j = 0
    · exact rpos hz <| evp hz (Ev.now _)
    refine rneg hz <| evn hz (evp (by omega) (evp (by omega) ?_))
    rw [rdS p j hj2, getS p j hj2]
    exact evp k2 (evp (by omega) (Ev.now _))
theorem mend_spec (p : List S112) (d : Int) (q : List Int) (hp : p.length ≤ 4000000) (hq : q.length ≤ 4000000) : Ev (fun n => spec_MendStep.f n p d q) (mendStep p d q) := by
  unfold spec_MendStep.f mendStep
  refine evb (l36Copy_eq p d q hp hq) (Ev.bind (wrong_spec p d q) ?_)
  cases h : wrongSteps p d q with
  | nil => exact evp rfl (Ev.now _)
  | cons i r =>
    obtain ⟨hw, j, rfl, hj, hj2⟩ := wrongSteps_head h
    have hp := workOk_plan hw; have hq := workOk_len hw
    obtain ⟨k0, k1, k2, k3, k4⟩ := planOk_in hp p[j] (List.getElem_mem hj2)
    refine evn (by simp; omega) (evp (by simp) ?_)
    rw [show rd ((j : Int) :: r) 0 = (j : Int) from rfl]
    refine evp (by omega) (evp (by omega) ?_)
    rw [rdS p j hj2]
    refine evp k0 (evp (by omega) (Ev.bind (tuned_spec _ _ _) ?_))
    rw [rd_get]
    have et : tunedPitch (q.getD p[j].f0.toNat 0) p[j].f2 p[j].f3 = tuneAt p q j := by unfold tuneAt; rw [getS p j hj2]
    simp only [Int.toNat_natCast]
    rw [et, getS p j hj2]
    by_cases hz : tuneAt p q j = 0
    · exact rpos hz <| evp hz (Ev.now _)
    exact rneg hz <| evn hz (evp k2 (evp (by omega) (Ev.now _)))
theorem mendStep_len (p : List S112) (d : Int) (q : List Int) : (mendStep p d q).1 = p ∧ (mendStep p d q).2.1 = d ∧ (mendStep p d q).2.2.1.length = q.length := by
  unfold mendStep; split
  · exact ⟨rfl, rfl, rfl⟩
  · split
    · exact ⟨rfl, rfl, rfl⟩
    · exact ⟨rfl, rfl, by simp⟩
def workStep (p : List S112) (d : Int) (q : List Int) : List S112 × Int × List Int × Bool :=
  if workOk p d q = true then
    if d = (p.length : Int) then (p, d, q, false)
    else if tuneAt p q d.toNat = 0 then (p, d, q, false)
    else (p, d + 1, q.set (p.getD d.toNat z112).f1.toNat (tuneAt p q d.toNat), true)
  else (p, d, q, false)
theorem step_impl (p : List S112) (d : Int) (q : List Int) (hp : p.length ≤ 4000000) (hq : q.length ≤ 4000000) : Ev (fun n => impl_WorkStep.f n p d q) (workStep p d q) := by
  have jt : Ev (fun n => impl_WorkStep.j0 n true p d q p d q) (p, d, q, false) := Ev.step (fun n => by rw [impl_WorkStep.j0]) (evp rfl (Ev.now _))
  unfold impl_WorkStep.f workStep
  refine evb (copyWork_eq p d q hp hq) (evb (workImpl_eq p d q) ?_)
  by_cases h : workOk p d q = true
  rotate_left
  · exact rneg h <| evn h jt
  refine rpos h <| evp h ?_
  have hp := workOk_plan h; have hd := workOk_done h; have hq := workOk_len h; have hl := planOk_len hp
  obtain ⟨m, rfl⟩ := Int.eq_ofNat_of_zero_le hd.1
  by_cases he : (m : Int) = (p.length : Int)
  · rw [show ((m : Int) == (p.length : Int)) = true by simpa using he]; exact rpos he jt
  rw [show ((m : Int) == (p.length : Int)) = false by simpa using he]
  refine rneg he ?_
  have hm : m < p.length := by omega
  obtain ⟨k0, k1, k2, k3, k4⟩ := planOk_in hp p[m] (List.getElem_mem hm)
  refine Ev.step (fun n => by rw [impl_WorkStep.j0]) ?_
  refine evn (by decide) (Ev.bind (tunedBy_ev p m q m hp hq hm) ?_)
  simp only [Int.toNat_natCast]
  by_cases hz : tuneAt p q m = 0
  · exact rpos hz <| evp hz (Ev.now _)
  refine rneg hz <| evn hz (evp (by omega) (evp (by omega) ?_))
  rw [rdS p m hm, getS p m hm, w64 (n := (m : Int) + 1) (by omega) (by omega)]
  exact evp k2 (evp (by omega) (Ev.now _))
theorem step_spec (p : List S112) (d : Int) (q : List Int) (hp : p.length ≤ 4000000) (hq : q.length ≤ 4000000) : Ev (fun n => spec_WorkStep.f n p d q) (workStep p d q) := by
  have jt : Ev (fun n => spec_WorkStep.j0 n true p d q p d q) (p, d, q, false) := Ev.step (fun n => by rw [spec_WorkStep.j0]) (evp rfl (Ev.now _))
  unfold spec_WorkStep.f workStep
  refine evb (l36Copy_eq p d q hp hq) (Ev.bind (workOk_spec p d q) ?_)
  by_cases h : workOk p d q = true
  rotate_left
  · exact rneg h <| evn h jt
  refine rpos h <| evp h ?_
  have hp := workOk_plan h; have hd := workOk_done h; have hq := workOk_len h; have hl := planOk_len hp
  obtain ⟨m, rfl⟩ := Int.eq_ofNat_of_zero_le hd.1
  by_cases he : (m : Int) = (p.length : Int)
  · rw [show ((m : Int) == (p.length : Int)) = true by simpa using he]; exact rpos he jt
  rw [show ((m : Int) == (p.length : Int)) = false by simpa using he]
  refine rneg he ?_
  have hm : m < p.length := by omega
  obtain ⟨k0, k1, k2, k3, k4⟩ := planOk_in hp p[m] (List.getElem_mem hm)
  refine Ev.step (fun n => by rw [spec_WorkStep.j0]) ?_
  refine evn (by decide) (evp (by omega) (evp (by omega) ?_))
  rw [rdS p m hm]
  refine evp k0 (evp (by omega) (Ev.bind (tuned_spec _ _ _) ?_))
  rw [rd_get]
  have et : tunedPitch (q.getD p[m].f0.toNat 0) p[m].f2 p[m].f3 = tuneAt p q m := by unfold tuneAt; rw [getS p m hm]
  rw [et, getS p ((m : Int).toNat) hm]
  simp only [Int.toNat_natCast]
  by_cases hz : tuneAt p q m = 0
  · exact rpos hz <| evp hz (Ev.now _)
  refine rneg hz <| evn hz ?_
  rw [w64 (n := (m : Int) + 1) (by omega) (by omega)]
  exact evp k2 (evp (by omega) (Ev.now _))
theorem workStep_len (p : List S112) (d : Int) (q : List Int) : (workStep p d q).1 = p ∧ (workStep p d q).2.2.1.length = q.length := by
  unfold workStep; split
  · split
    · exact ⟨rfl, rfl⟩
    · split
      · exact ⟨rfl, rfl⟩
      · exact ⟨rfl, by simp⟩
  · exact ⟨rfl, rfl⟩
theorem szIntS_eq (l : List Int) (m : Int) (h0 : 0 ≤ m) (hm : m ≤ 1048576) (hl : l.length ≤ 9223372036854775807) : laws_szIntS.f l m = some (if m < l.length then -1 else m - l.length) := by
  unfold laws_szIntS.f
  rw [w64 (by omega) (by omega)]
  by_cases h : m < l.length
  · rw [if_pos (by omega), if_pos h]
  · rw [if_neg (by omega), if_neg h]
theorem szWork_eq (p : List S140) (d : Int) (q : List Int) (m : Int) (h0 : 0 ≤ m) (hm : m ≤ 1048576) (hp : p.length ≤ 9223372036854775807) (hq : q.length ≤ 9223372036854775807) :
    laws_szWork.f p d q m = some (if m < p.length + q.length then -1 else m - p.length - q.length) := by
  unfold laws_szWork.f
  rw [szStepS_eq p m h0 hm hp, Option.bind_some]
  by_cases h : m < p.length
  · rw [if_pos h, if_pos (by omega), if_pos (by omega)]
  rw [if_neg h, if_neg (by omega), szIntS_eq q _ (by omega) (by omega) hq, Option.bind_some]
  by_cases h2 : m - p.length < q.length
  · rw [if_pos h2, if_pos (by omega), if_pos (by omega)]
  · rw [if_neg h2, if_neg (by omega), if_neg (by omega)]
theorem toWork_ev (p : List S140) (d : Int) (q : List Int) (hp : p.length ≤ 1048576) (hq : q.length ≤ 1048576) : Ev (fun k => laws_toWork.f k p d q) (p.map cStep, d, q) := by
  unfold laws_toWork.f
  exact Ev.bind (toStepS_ev p hp) (Ev.bind (toIntS_ev q hq) (Ev.now _))
theorem eqWork_ev (p : List S112) (d : Int) (q : List Int) (hp : p.length ≤ 9000000000000000000) (hq : q.length ≤ 9000000000000000000) : Ev (fun k => laws_eqWork.f k p d q p d q) true := by
  unfold laws_eqWork.f
  exact Ev.bind (eqStepS_ev p hp) (evp rfl (evp rfl (Ev.bind (eqIntS_ev q hq) (evp rfl (Ev.now _)))))
theorem szShop_eq (p : List S140) (d : Int) (q : List Int) (a m : Int) (l : List S127) (n : Int) (h0 : 0 ≤ n) (hm : n ≤ 1048576) (hp : p.length ≤ 9223372036854775807) (hq : q.length ≤ 9223372036854775807) (hl : l.length ≤ 9223372036854775807) :
    laws_szShop.f p d q a m l n = some (if n < p.length + q.length + l.length then -1 else n - p.length - q.length - l.length) := by
  unfold laws_szShop.f
  rw [szWork_eq p d q n h0 hm hp hq, Option.bind_some]
  by_cases h : n < p.length + q.length
  · rw [if_pos h, if_pos (by omega), if_pos (by omega)]
  rw [if_neg h, if_neg (by omega), szEntryS_eq l _ (by omega) (by omega) hl, Option.bind_some]
  by_cases h2 : n - p.length - q.length < l.length
  · rw [if_pos h2, if_pos (by omega), if_pos (by omega)]
  · rw [if_neg h2, if_neg (by omega), if_neg (by omega)]
theorem toShop_ev (p : List S140) (d : Int) (q : List Int) (a m : Int) (l : List S127) (hp : p.length ≤ 1048576) (hq : q.length ≤ 1048576) (hl : l.length ≤ 1048576) : Ev (fun k => laws_toShop.f k p d q a m l) (p.map cStep, d, q, a, m, l.map cEntry) := by
  unfold laws_toShop.f
  exact Ev.bind (toWork_ev p d q hp hq) (Ev.bind (toEntryS_ev l hl) (Ev.now _))
theorem eqShop_ev (p : List S112) (d : Int) (q : List Int) (a m : Int) (l : List S104) (hp : p.length ≤ 9000000000000000000) (hq : q.length ≤ 9000000000000000000) (hl : l.length ≤ 9000000000000000000) : Ev (fun k => laws_eqShop.f k p d q a m l p d q a m l) true := by
  unfold laws_eqShop.f
  exact Ev.bind (eqWork_ev p d q hp hq) (evp rfl (evp rfl (evp rfl (Ev.bind (eqEntryS_ev l hl) (evp rfl (Ev.now _))))))
theorem markWork_ev (p : List S112) (d : Int) (q : List Int) (m : Int) (h0 : 0 ≤ m) (hm : m + 4 * p.length + q.length ≤ 4000000000000000000) :
    Ev (fun k => laws_markWork.f k p d q m) (m + 4 * p.length + q.length, runsS m p.length, runs (m + 4 * p.length) q.length) := by
  unfold laws_markWork.f
  exact Ev.bind (markStepS_ev p m h0 (by omega)) (Ev.bind (markIntS_ev q _ (by omega) (by omega)) (Ev.now _))
theorem heldWork_ev (n : Nat) (d : Int) (j : Nat) (m : Int) (h0 : 0 ≤ m) (hm : m + 4 * n + j ≤ 4000000000000000000) :
    Ev (fun k => laws_heldWork.f k (runsS m n) d (runs (m + 4 * n) j) m) (m + 4 * n + j) := by
  unfold laws_heldWork.f
  exact Ev.bind (heldStepS_ev n m h0 (by omega)) (evn (by omega) (Ev.bind (heldIntS_ev j _ (by omega) (by omega)) (evn (by omega) (Ev.now _))))
theorem markShop_ev (p : List S112) (d : Int) (q : List Int) (a m : Int) (l : List S104) (n : Int) (h0 : 0 ≤ n) (hn : n ≤ 4) (hp : p.length ≤ 4000000) (hq : q.length ≤ 4000000) (hl : l.length ≤ 4000000) :
    Ev (fun k => laws_markShop.f k p d q a m l n) (n + 4 * p.length + q.length + 4 * l.length, runsS n p.length, runs (n + 4 * p.length) q.length, runsE (n + 4 * p.length + q.length) l.length) := by
  unfold laws_markShop.f
  exact Ev.bind (markWork_ev p d q n h0 (by omega)) (Ev.bind (markEntryS_ev l _ (by omega) (by omega)) (Ev.now _))
theorem heldShop_ev (x : Nat) (d : Int) (y : Nat) (a m : Int) (z : Nat) (n : Int) (h0 : 0 ≤ n) (hn : n ≤ 4) (hp : x ≤ 4000000) (hq : y ≤ 4000000) (hl : z ≤ 4000000) :
    Ev (fun k => laws_heldShop.f k (runsS n x) d (runs (n + 4 * x) y) a m (runsE (n + 4 * x + y) z) n) (n + 4 * x + y + 4 * z) := by
  unfold laws_heldShop.f
  exact Ev.bind (heldWork_ev x d y n h0 (by omega)) (evn (by omega) (Ev.bind (heldEntryS_ev z _ (by omega) (by omega)) (evn (by omega) (Ev.now _))))
end Go.Proofs.YtanhnhkcpbdfmaaGreat.Q
namespace Go.Proofs.YtanhnhkcpbdfmaaGreat.P
set_option maxHeartbeats 8000000
set_option maxRecDepth 100000
set_option synthInstance.maxHeartbeats 400000
set_option synthInstance.maxSize 100000
open Go.RowKit Go.Proofs.YtanhnhkcpbdfmaaGreatW.PrintWords Go.Proofs.YtanhnhkcpbdfmaaGreatW.PrintLast Go.Proofs.YtanhnhkcpbdfmaaGreatW.PrintMore Go.Proofs.YtanhnhkcpbdfmaaGreat.V
attribute [local go_sem] cell_b frozen_b cellR_c cell_r frozen_r cell_r0 frozen_r0
attribute [local go_sem] max2_int min2_int max_two min_two max_three min_three max_four min_four
attribute [local go_sem high] eqA41
def impl_ActOk.j0 : Nat → Int → Bool → Int → Int → Int → Int → Option (Bool)
 | 0, _, _, _, _, _, _ => none
 | k + 1, x4, x5, x740000, x740001, x740002, x740003 => if x5 = true then (some (x740001 == 0 && (x740002 == 0 && (x740003 == 0)))) else (if x4 = 2 then (if (x740002 == 0 && (x740003 == 0)) = true then ((impl_isWarmth.f x740001).bind fun t740 => (some t740)) else (some false)) else (if x4 = 3 then ((impl_within.f x740001 0 3).bind fun t741 => (if t741 = true then ((impl_within.f x740002 0 39).bind fun t742 => (if t742 = true then ((impl_within.f x740003 0 2).bind fun t743 => (some t743)) else (some false))) else (some false))) else (if x4 = 4 then (if (x740003 == 0) = true then ((impl_within.f x740001 0 11).bind fun t744 => (if t744 = true then ((impl_within.f x740002 (-100000) 100000).bind fun t745 => (some t745)) else (some false))) else (some false)) else (if x4 = 7 then (if (x740002 == 0 && (x740003 == 0)) = true then ((impl_within.f x740001 0 11).bind fun t746 => (some t746)) else (some false)) else (some false)))))
def impl_ActOk.f (k : Nat) (a0_0 : Int) (a0_1 : Int) (a0_2 : Int) (a0_3 : Int) : Option (Bool) := if a0_0 = 1 then (impl_ActOk.j0 k a0_0 (a0_0 == 1) a0_0 a0_1 a0_2 a0_3) else (if a0_0 = 5 then (impl_ActOk.j0 k a0_0 (a0_0 == 5) a0_0 a0_1 a0_2 a0_3) else (impl_ActOk.j0 k a0_0 (a0_0 == 6) a0_0 a0_1 a0_2 a0_3))
theorem impl_ActOk.calls (k : Nat) (a0_0 : Int) (a0_1 : Int) (a0_2 : Int) (a0_3 : Int) (r : Bool) (w : World) (h : impl_ActOk.f k a0_0 a0_1 a0_2 a0_3 = some r) :
  Calls Tryz.prog 56 #[.agg #[.int .i64 a0_0, .int .i64 a0_1, .int .i64 a0_2, .int .i64 a0_3]] w fun e w' => e = .returned (.bool r) ∧ Below w.heap.size w w' := by
 unfold impl_ActOk.f at h
 have hu41 := Tryz.underlying41
 (repeat' first | ((with_reducible replace h := ite_some h); rcases h with ⟨hc, h⟩ | ⟨hc, h⟩ <;> first | exact (none_some h).elim | exact absurd hc (by decide) | subst hc | (replace hc := hF_ hc; subst hc) | (replace hc := hG_ hc; subst hc) | (replace hc := hH_ hc; subst hc) | (have hd : (_ == _) = true := hc) | (have hd : (_ == _) = false := hF_ hc) | (have hd := hI_ hc; have he := hJ_ hc; clear hc) | (have hd := hK_ hc; have he := hL_ hc) | (have hd := decide_eq_false hc) | (have hd := decide_eq_true hc; (try (have hn := Int.natCast_pos.mp hc; have hm := decide_eq_true hn; replace hn := eq_true hn)); first | (obtain ⟨g_, e_, i_⟩ := form_ (by assumption) (by first | assumption | decide) hc; cases e_) | (obtain ⟨a_, e_, c_⟩ := atI_ (by assumption) (by first | assumption | decide) hc; cases e_)) | (have hd := decide_eq_true hc) | skip) | ((with_reducible have hj : impl_ActOk.j0 k _ _ _ _ _ _ = _ := h); clear hj; rcases k with _ | k <;> rw [impl_ActOk.j0] at h <;> first | exact (none_some h).elim | skip) | ((with_reducible replace h := bind_set_ h); obtain ⟨hl_, h⟩ := h; replace hl_ := A_ hl_; (try dsimp only at h)))
 all_goals go_enter Tryz.func56, Tryz.ntmps56
 all_goals go_wp2_with ((first
  | ((with_reducible refine gate_dst (N := 1) rfl ?_); refine bV #[.int .i64 a0_0, .int .i64 a0_1, .int .i64 a0_2, .int .i64 a0_3] 41 fun g w1 j1 j2 j3 => ?_)
  | (go_at_call 78; (try rw [hl_.out]); replace h := bI h; obtain ⟨t, A, h⟩ := h; (try dsimp only at h); refine (impl_isWarmth.calls _ _ _ A).mono ?_; rintro e w2 ⟨rfl, n, rfl⟩; clear A)
  | (go_at_call 79; (try rw [hl_.out]); replace h := bI h; obtain ⟨t, A, h⟩ := h; (try dsimp only at h); refine (impl_within.calls _ _ _ _ _ A).mono ?_; rintro e w2 ⟨rfl, n, rfl⟩; clear A)); (repeat' first | ((with_reducible replace h := ite_some h); rcases h with ⟨hc, h⟩ | ⟨hc, h⟩ <;> first | exact (none_some h).elim | exact absurd hc (by decide) | subst hc | (replace hc := hF_ hc; subst hc) | (replace hc := hG_ hc; subst hc) | (replace hc := hH_ hc; subst hc) | (have hd : (_ == _) = true := hc) | (have hd : (_ == _) = false := hF_ hc) | (have hd := hI_ hc; have he := hJ_ hc; clear hc) | (have hd := hK_ hc; have he := hL_ hc) | (have hd := decide_eq_false hc) | (have hd := decide_eq_true hc; (try (have hn := Int.natCast_pos.mp hc; have hm := decide_eq_true hn; replace hn := eq_true hn)); first | (obtain ⟨g_, e_, i_⟩ := form_ (by assumption) (by first | assumption | decide) hc; cases e_) | (obtain ⟨a_, e_, c_⟩ := atI_ (by assumption) (by first | assumption | decide) hc; cases e_)) | (have hd := decide_eq_true hc) | skip) | ((with_reducible have hj : impl_ActOk.j0 k _ _ _ _ _ _ = _ := h); clear hj; rcases k with _ | k <;> rw [impl_ActOk.j0] at h <;> first | exact (none_some h).elim | skip) | ((with_reducible replace h := bind_set_ h); obtain ⟨hl_, h⟩ := h; replace hl_ := A_ hl_; (try dsimp only at h))))
 all_goals obtain rfl := Option.some.inj h
 all_goals go_ret
 all_goals exact ⟨(by first | rfl | (simp_all; done)), From.out⟩
end Go.Proofs.YtanhnhkcpbdfmaaGreat.P
namespace Go.Proofs.YtanhnhkcpbdfmaaGreat.Q
open Go.RowKit Go.Proofs.YtanhnhkcpbdfmaaGreat.P Go.Proofs.YtanhnhkcpbdfmaaGreatW.PrintWords Go.Proofs.YtanhnhkcpbdfmaaGreatW.PrintMore
theorem isWarmthA_eq (a : Int) : impl_isWarmth.f a = some (decide (-10 ≤ a ∧ a ≤ 40)) := by
  unfold impl_isWarmth.f; rw [within_eq]; rfl
def actOk (n a b c : Int) : Bool :=
  if n = 1 ∨ n = 5 ∨ n = 6 then decide (a = 0 ∧ b = 0 ∧ c = 0)
  else if n = 2 then decide ((-10 ≤ a ∧ a ≤ 40) ∧ b = 0 ∧ c = 0)
  else if n = 3 then decide ((0 ≤ a ∧ a ≤ 3) ∧ (0 ≤ b ∧ b ≤ 39) ∧ (0 ≤ c ∧ c ≤ 2))
  else if n = 4 then decide ((0 ≤ a ∧ a ≤ 11) ∧ (-100000 ≤ b ∧ b ≤ 100000) ∧ c = 0)
  else if n = 7 then decide ((0 ≤ a ∧ a ≤ 11) ∧ b = 0 ∧ c = 0) else false
theorem actOk_impl (n a b c : Int) : Ev (fun k => impl_ActOk.f k n a b c) (actOk n a b c) := by
  have J : ∀ x : Bool, x = decide (n = 1 ∨ n = 5 ∨ n = 6) → Ev (fun k => impl_ActOk.j0 k n x n a b c) (actOk n a b c) := by
    intro x hx
    refine Ev.step (fun k => by rw [impl_ActOk.j0]) ?_
    unfold actOk
    by_cases h : n = 1 ∨ n = 5 ∨ n = 6
    · refine evp (by simp [hx, h]) (evs ?_)
      rw [if_pos h, Bool.eq_iff_iff]; simp
    rw [if_neg h]
    refine evn (by simp [hx, h]) ?_
    by_cases h2 : n = 2
    · refine evp h2 ?_
      rw [if_pos h2]
      by_cases hz : b = 0 ∧ c = 0
      · refine evp (by simp [hz]) (evb (isWarmthA_eq _) (evs ?_))
        simp [hz]
      · refine evn (by simpa using hz) (evs ?_)
        rw [Bool.eq_iff_iff]; simp; intros; omega
    refine evn h2 ?_
    rw [if_neg h2]
    by_cases h3 : n = 3
    · refine evp h3 ?_
      rw [if_pos h3]
      refine evb (within_eq _ _ _) ?_
      by_cases p1 : 0 ≤ a ∧ a ≤ 3
      rotate_left
      · exact evn (by simpa using p1) (evs (by simp [p1]))
      refine evp (by simpa using p1) (evb (within_eq _ _ _) ?_)
      by_cases p2 : 0 ≤ b ∧ b ≤ 39
      rotate_left
      · exact evn (by simpa using p2) (evs (by simp [p2]))
      refine evp (by simpa using p2) (evb (within_eq _ _ _) (evs ?_))
      simp [p1, p2]
    refine evn h3 ?_
    rw [if_neg h3]
    by_cases h4 : n = 4
    · refine evp h4 ?_
      rw [if_pos h4]
      by_cases p0 : c = 0
      rotate_left
      · exact evn (by simpa using p0) (evs (by simp [p0]))
      refine evp (by simpa using p0) (evb (within_eq _ _ _) ?_)
      by_cases p1 : 0 ≤ a ∧ a ≤ 11
      rotate_left
      · exact evn (by simpa using p1) (evs (by simp [p1]))
      refine evp (by simpa using p1) (evb (within_eq _ _ _) (evs ?_))
      simp [p0, p1]
    refine evn h4 ?_
    rw [if_neg h4]
    by_cases h7 : n = 7
    · refine evp h7 ?_
      rw [if_pos h7]
      by_cases hz : b = 0 ∧ c = 0
      · refine evp (by simp [hz]) (evb (within_eq _ _ _) (evs ?_))
        simp [hz]
      · refine evn (by simpa using hz) (evs ?_)
        rw [Bool.eq_iff_iff]; simp; intros; omega
    refine evn h7 ?_
    rw [if_neg h7]
    exact Ev.now _
  unfold impl_ActOk.f
  refine evi (fun h => J _ (by simp [h])) (fun h => evi (fun h5 => J _ (by simp [h5])) (fun h5 => J _ ?_))
  rw [Bool.eq_iff_iff]; simp [h, h5]
theorem actOk_spec (n a b c : Int) : Ev (fun k => spec_ActOk.f k n a b c) (actOk n a b c) := by
  have Z : ∀ (p : Prop) [Decidable p], p → Ev (fun _ => if b = 0 then some (c == 0) else some false) (decide (p ∧ b = 0 ∧ c = 0)) := by
    intro p _ hp
    by_cases hb : b = 0
    · refine evp hb (evs ?_); rw [Bool.eq_iff_iff]; simp [hp, hb]
    · refine evn hb (evs ?_); simp [hb]
  have J : ∀ x : Bool, x = decide (n = 1 ∨ n = 5 ∨ n = 6) → Ev (fun k => spec_ActOk.j0 k n x n a b c) (actOk n a b c) := by
    intro x hx
    refine Ev.step (fun k => by rw [spec_ActOk.j0]) ?_
    unfold actOk
    by_cases h : n = 1 ∨ n = 5 ∨ n = 6
    · rw [if_pos h]
      refine evp (by simp [hx, h]) ?_
      by_cases ha : a = 0
      · exact evp ha (Z (a = 0) ha)
      · exact evn ha (evs (by simp [ha]))
    rw [if_neg h]
    refine evn (by simp [hx, h]) ?_
    by_cases h2 : n = 2
    · refine evp h2 ?_
      rw [if_pos h2]
      refine evb (l01In_eq _ _ _) ?_
      by_cases p1 : -10 ≤ a ∧ a ≤ 40
      · exact evp (by simpa using p1) (Z _ p1)
      · exact evn (by simpa using p1) (evs (by simp [p1]))
    refine evn h2 ?_
    rw [if_neg h2]
    by_cases h3 : n = 3
    · refine evp h3 ?_
      rw [if_pos h3]
      refine evb (l01In_eq _ _ _) ?_
      by_cases p1 : 0 ≤ a ∧ a ≤ 3
      rotate_left
      · exact evn (by simpa using p1) (evs (by simp [p1]))
      refine evp (by simpa using p1) (evb (l01In_eq _ _ _) ?_)
      by_cases p2 : 0 ≤ b ∧ b ≤ 39
      rotate_left
      · exact evn (by simpa using p2) (evs (by simp [p2]))
      refine evp (by simpa using p2) (evb (l01In_eq _ _ _) (evs ?_))
      simp [p1, p2]
    refine evn h3 ?_
    rw [if_neg h3]
    by_cases h4 : n = 4
    · refine evp h4 ?_
      rw [if_pos h4]
      refine evb (l01In_eq _ _ _) ?_
      by_cases p1 : 0 ≤ a ∧ a ≤ 11
      rotate_left
      · exact evn (by simpa using p1) (evs (by simp [p1]))
      refine evp (by simpa using p1) (evb (l01In_eq _ _ _) ?_)
      by_cases p2 : -100000 ≤ b ∧ b ≤ 100000
      · refine evp (by simpa using p2) (evs ?_); rw [Bool.eq_iff_iff]; simp [p1, p2]
      · refine evn (by simpa using p2) (evs ?_); simp [p2]
    refine evn h4 ?_
    rw [if_neg h4]
    by_cases h7 : n = 7
    · refine evp h7 ?_
      rw [if_pos h7]
      refine evb (l01In_eq _ _ _) ?_
      by_cases p1 : 0 ≤ a ∧ a ≤ 11
      · exact evp (by simpa using p1) (Z _ p1)
      · exact evn (by simpa using p1) (evs (by simp [p1]))
    refine evn h7 ?_
    rw [if_neg h7]
    exact Ev.now _
  unfold spec_ActOk.f
  refine evi (fun h => J _ (by simp [h])) (fun h => evi (fun h5 => J _ (by simp [h5])) (fun h5 => J _ ?_))
  rw [Bool.eq_iff_iff]; simp [h, h5]
theorem actOk_kind {n a b c : Int} (h : actOk n a b c = true) : 1 ≤ n ∧ n ≤ 7 := by
  unfold actOk at h
  by_cases h1 : n = 1 ∨ n = 5 ∨ n = 6
  · omega
  rw [if_neg h1] at h
  by_cases h2 : n = 2
  · omega
  rw [if_neg h2] at h
  by_cases h3 : n = 3
  · omega
  rw [if_neg h3] at h
  by_cases h4 : n = 4
  · omega
  rw [if_neg h4] at h
  by_cases h7 : n = 7
  · omega
  rw [if_neg h7] at h
  cases h
end Go.Proofs.YtanhnhkcpbdfmaaGreat.Q
namespace Go.Proofs.YtanhnhkcpbdfmaaGreat.P
set_option maxHeartbeats 8000000
set_option maxRecDepth 100000
set_option synthInstance.maxHeartbeats 400000
set_option synthInstance.maxSize 100000
open Go.RowKit Go.Proofs.YtanhnhkcpbdfmaaGreatW.PrintWords Go.Proofs.YtanhnhkcpbdfmaaGreatW.PrintLast Go.Proofs.YtanhnhkcpbdfmaaGreatW.PrintMore Go.Proofs.YtanhnhkcpbdfmaaGreat.V
attribute [local go_sem] cell_b frozen_b
attribute [local go_sem] max2_int min2_int max_two min_two max_three min_three max_four min_four
def spec_LogOk.f (k : Nat) (l0 : List (S104)) : Option (Bool) := some (Q.logOk l0)
attribute [local go_sem] cellR_c
theorem spec_LogOk.calls (k : Nat) (A0 : Option Addr) (c0 : Nat) (l0 : List (S104)) (r : Bool) (w : World) (hr0 : Kd.C k104 w A0 l0.length l0) (hc0 : l0.length ≤ c0) (h : spec_LogOk.f k l0 = some r) :
  Calls Tryz.prog 87 #[.slice A0 l0.length c0] w fun e w' => e = .returned (.bool r) ∧ Below w.heap.size w w' := by
 have win : ∀ (a b c : Int) (d : Bool), decide (b ≤ a ∧ a ≤ c) = d → Aside0 (∀ W : World, Calls Tryz.prog 88 #[.int .i64 a, .int .i64 b, .int .i64 c] W fun e w' => e = .returned (.bool d) ∧ Drawn0 W w') := fun a b c d hd =>
  ⟨fun W => spec_l01In.calls a b c d W (by rw [← hd]; unfold spec_l01In.f; by_cases hh : a ≥ b <;> simp [hh] <;> omega)⟩
 have hm : l0.length ≤ 9223372036854775807 := Kd.C_max hr0
 have HQ : Aside0 ((Q.logGo (Q.prevM l0 0) (l0.drop 0) && decide (l0.length ≤ 30)) = r) := ⟨Option.some.inj h⟩
 have HR0 := A_ hr0
 have WIN := A_ win
 clear hr0 h win
 have hu := Tryz.underlying104
 go_enter Tryz.func87, Tryz.ntmps87
 go_wp2
 go_loopg [3] (l0.length + 1) (fun kq v3 w' => ∃ (i : Nat), v3 = .int .i64 (i : Int) ∧ Aside0 (i + kq = l0.length + 1) ∧ Aside0 (i ≤ l0.length) ∧ Aside0 ((Q.logGo (Q.prevM l0 i) (l0.drop i) && decide (l0.length ≤ 30)) = r) ∧ Aside0 (Below w.heap.size w w'))
 case atStart => exact ⟨0, rfl, ⟨by omega⟩, ⟨by omega⟩, HQ, ⟨by repeat (first | exact Below.refl _ _ | apply below_alloc | apply pw_below_drewN | apply below_drew1)⟩⟩
 case round =>
  clear HQ
  obtain ⟨i, rfl, HI1, HI2, HQ, HB⟩ := hrel
  have jf : From w wr := ⟨HB.out⟩
  have js : Sz w wr := ⟨HB.out.size⟩
  by_cases hlt : i < l0.length
  rotate_left
  ·have hb3 : decide ((i : Int) < (l0.length : Int)) = false := decide_eq_false (by omega)
   have hb4 : decide (i < l0.length) = false := decide_eq_false (by omega)
   obtain rfl : i = l0.length := by have := HI2.out; omega
   have HX : Aside0 (decide (l0.length ≤ 30) = r) := ⟨by rw [← HQ.out, List.drop_eq_nil_of_le (Nat.le_refl _)]; simp [Q.logGo]⟩
   have hx1 : decide ((l0.length : Int) ≤ 30) = r := by rw [← HX.out]; exact decide_eq_decide.mpr (by omega)
   clear HQ HR0 WIN
   go_wp2
   go_ret
   exact ⟨by first | rfl | (simp [hx1]; done), HB.out⟩
  ·have hb3 : decide ((i : Int) < (l0.length : Int)) = true := decide_eq_true (by omega)
   have hb4 : decide (i < l0.length) = true := decide_eq_true hlt
   obtain ⟨ad, e, hx0, hx1, hx2, hx3⟩ := at_T104 HR0.out (i : Int) (by omega) (by omega)
   cases e
   obtain ⟨x, hx⟩ : ∃ x, rd_T104 l0 (i : Int) = x := ⟨_, rfl⟩
   rw [hx] at hx0 hx1 hx2 hx3
   simp only [Int.toNat_natCast] at hx0 hx1 hx2 hx3
   have j0 : CelR wr _ _ := ⟨hW HB hx0⟩
   have j1 : CelR wr _ _ := ⟨hW HB hx1⟩
   have j2 : CelR wr _ _ := ⟨hW HB hx2⟩
   have j3 : CelR wr _ _ := ⟨hW HB hx3⟩
   have e0 : l0[i] = x := by rw [← hx]; simp [rd_T104, List.getD_eq_getElem?_getD, hlt]
   have HD := A_ (Q.logGo_at l0 i hlt)
   rw [e0] at HD
   obtain ⟨b1, hb1⟩ : ∃ b, decide (0 ≤ x.f0.f0 ∧ x.f0.f0 ≤ 3) = b := ⟨_, rfl⟩
   obtain ⟨b2, hb2⟩ : ∃ b, decide (0 ≤ x.f0.f1 ∧ x.f0.f1 ≤ 39) = b := ⟨_, rfl⟩
   obtain ⟨b3, hb3'⟩ : ∃ b, decide (0 ≤ x.f1 ∧ x.f1 ≤ 2) = b := ⟨_, rfl⟩
   obtain ⟨b4, hb4'⟩ : ∃ b, decide (0 ≤ x.f2 ∧ x.f2 ≤ 100000) = b := ⟨_, rfl⟩
   have W1 := WIN.out _ _ _ _ hb1
   have W2 := WIN.out _ _ _ _ hb2
   have W3 := WIN.out _ _ _ _ hb3'
   have W4 := WIN.out _ _ _ _ hb4'
   have HE : Aside0 (Q.entOk x = (b1 && (b2 && (b3 && b4)))) := ⟨by rw [← hb1, ← hb2, ← hb3', ← hb4']; rfl⟩
   have HP : Aside0 (0 < i → Q.prevM l0 i = (rd_T104 l0 ((i - 1 : Nat) : Int)).f2) := ⟨fun h0 => by rw [Q.prevM_pos l0 i h0 hlt]; simp [rd_T104, List.getD_eq_getElem?_getD, show i - 1 < l0.length by omega]⟩
   have HZ : Aside0 (b4 = true → i = 0 → Q.prevM l0 i ≤ x.f2) := ⟨fun h4 h0 => by subst h0; rw [h4, decide_eq_true_eq] at hb4'; exact hb4'.1⟩
   clear hx hx0 hx1 hx2 hx3 e0 WIN hb1 hb2 hb3' hb4'
   cases b1 with
   | false =>
    obtain rfl : false = r := by rw [← HQ.out, HD.out, HE.out]; rfl
    clear HR0 HQ HD HE HP HZ
    go_wp2_with (first         | ((with_reducible refine gate_dst (N := 4) rfl ?_); refine bV #[.int .i64 0, .int .i64 0, .int .i64 0, .int .i64 0] 104 fun g w1 j1 j2 j3 => ?_)         | (go_at_call 88; (first | (with_reducible refine (W1.out _).mono ?_) | (with_reducible refine (W2.out _).mono ?_) | (with_reducible refine (W3.out _).mono ?_) | (with_reducible refine (W4.out _).mono ?_)); rintro e w' ⟨rfl, ⟨nd, rfl⟩⟩))
    repeat (go_quiet (first | (go_at_call 88; (first | (with_reducible refine (W1.out _).mono ?_) | (with_reducible refine (W2.out _).mono ?_) | (with_reducible refine (W3.out _).mono ?_) | (with_reducible refine (W4.out _).mono ?_)); rintro e w' ⟨rfl, ⟨nd, rfl⟩⟩; exact ⟨rfl, _, World.drewN_drewN _ _ _⟩)); try go_wp2)
    go_ret
    exact ⟨rfl, From.out⟩
   | true =>
    cases b2 with
    | false =>
     obtain rfl : false = r := by rw [← HQ.out, HD.out, HE.out]; rfl
     clear HR0 HQ HD HE HP HZ
     go_wp2_with (first         | ((with_reducible refine gate_dst (N := 4) rfl ?_); refine bV #[.int .i64 0, .int .i64 0, .int .i64 0, .int .i64 0] 104 fun g w1 j1 j2 j3 => ?_)         | (go_at_call 88; (first | (with_reducible refine (W1.out _).mono ?_) | (with_reducible refine (W2.out _).mono ?_) | (with_reducible refine (W3.out _).mono ?_) | (with_reducible refine (W4.out _).mono ?_)); rintro e w' ⟨rfl, ⟨nd, rfl⟩⟩))
     repeat (go_quiet (first | (go_at_call 88; (first | (with_reducible refine (W1.out _).mono ?_) | (with_reducible refine (W2.out _).mono ?_) | (with_reducible refine (W3.out _).mono ?_) | (with_reducible refine (W4.out _).mono ?_)); rintro e w' ⟨rfl, ⟨nd, rfl⟩⟩; exact ⟨rfl, _, World.drewN_drewN _ _ _⟩)); try go_wp2)
     go_ret
     exact ⟨rfl, From.out⟩
    | true =>
     cases b3 with
     | false =>
      obtain rfl : false = r := by rw [← HQ.out, HD.out, HE.out]; rfl
      clear HR0 HQ HD HE HP HZ
      go_wp2_with (first         | ((with_reducible refine gate_dst (N := 4) rfl ?_); refine bV #[.int .i64 0, .int .i64 0, .int .i64 0, .int .i64 0] 104 fun g w1 j1 j2 j3 => ?_)         | (go_at_call 88; (first | (with_reducible refine (W1.out _).mono ?_) | (with_reducible refine (W2.out _).mono ?_) | (with_reducible refine (W3.out _).mono ?_) | (with_reducible refine (W4.out _).mono ?_)); rintro e w' ⟨rfl, ⟨nd, rfl⟩⟩))
      repeat (go_quiet (first | (go_at_call 88; (first | (with_reducible refine (W1.out _).mono ?_) | (with_reducible refine (W2.out _).mono ?_) | (with_reducible refine (W3.out _).mono ?_) | (with_reducible refine (W4.out _).mono ?_)); rintro e w' ⟨rfl, ⟨nd, rfl⟩⟩; exact ⟨rfl, _, World.drewN_drewN _ _ _⟩)); try go_wp2)
      go_ret
      exact ⟨rfl, From.out⟩
     | true =>
      cases b4 with
      | false =>
       obtain rfl : false = r := by rw [← HQ.out, HD.out, HE.out]; rfl
       clear HR0 HQ HD HE HP HZ
       go_wp2_with (first         | ((with_reducible refine gate_dst (N := 4) rfl ?_); refine bV #[.int .i64 0, .int .i64 0, .int .i64 0, .int .i64 0] 104 fun g w1 j1 j2 j3 => ?_)         | (go_at_call 88; (first | (with_reducible refine (W1.out _).mono ?_) | (with_reducible refine (W2.out _).mono ?_) | (with_reducible refine (W3.out _).mono ?_) | (with_reducible refine (W4.out _).mono ?_)); rintro e w' ⟨rfl, ⟨nd, rfl⟩⟩))
       repeat (go_quiet (first | (go_at_call 88; (first | (with_reducible refine (W1.out _).mono ?_) | (with_reducible refine (W2.out _).mono ?_) | (with_reducible refine (W3.out _).mono ?_) | (with_reducible refine (W4.out _).mono ?_)); rintro e w' ⟨rfl, ⟨nd, rfl⟩⟩; exact ⟨rfl, _, World.drewN_drewN _ _ _⟩)); try go_wp2)
       go_ret
       exact ⟨rfl, From.out⟩
      | true =>
       have hs : (i : Int) + 1 ≤ 9223372036854775807 := by omega
       by_cases hz : i = 0
       ·have hz1 : decide ((i : Int) > 0) = false := decide_eq_false (by omega)
        have hz2 : decide ((0 : Int) < (i : Int)) = false := decide_eq_false (by omega)
        have hz3 : decide (0 < i) = false := decide_eq_false (by omega)
        have HN : Aside0 ((Q.logGo (Q.prevM l0 (i + 1)) (l0.drop (i + 1)) && decide (l0.length ≤ 30)) = r) := ⟨by rw [← HQ.out, HD.out, HE.out, show decide (Q.prevM l0 i ≤ x.f2) = true from decide_eq_true (HZ.out rfl hz)]; rfl⟩
        clear HQ HD HE HP HZ hz
        go_wp2_with (first         | ((with_reducible refine gate_dst (N := 4) rfl ?_); refine bV #[.int .i64 0, .int .i64 0, .int .i64 0, .int .i64 0] 104 fun g w1 j1 j2 j3 => ?_)         | (go_at_call 88; (first | (with_reducible refine (W1.out _).mono ?_) | (with_reducible refine (W2.out _).mono ?_) | (with_reducible refine (W3.out _).mono ?_) | (with_reducible refine (W4.out _).mono ?_)); rintro e w' ⟨rfl, ⟨nd, rfl⟩⟩))
        repeat (go_quiet (first | (go_at_call 88; (first | (with_reducible refine (W1.out _).mono ?_) | (with_reducible refine (W2.out _).mono ?_) | (with_reducible refine (W3.out _).mono ?_) | (with_reducible refine (W4.out _).mono ?_)); rintro e w' ⟨rfl, ⟨nd, rfl⟩⟩; exact ⟨rfl, _, World.drewN_drewN _ _ _⟩)); try go_wp2)
        go_roundg (l0.length - i)
        case measure => have := HI1.out; omega
        case rel => exact ⟨i + 1, by go_num, ⟨by omega⟩, ⟨by omega⟩, HN, ⟨From.out⟩⟩
       ·obtain ⟨j, hj⟩ : ∃ j, j = i - 1 := ⟨_, rfl⟩
        have hz1 : decide ((i : Int) > 0) = true := decide_eq_true (by omega)
        have hz2 : decide ((0 : Int) < (i : Int)) = true := decide_eq_true (by omega)
        have hz3 : decide (0 < i) = true := decide_eq_true (by omega)
        have hw1 : wrap64 ((i : Int) - 1) = (j : Int) := by unfold wrap64; omega
        have hw2 : IntKind.i64.wrap ((i : Int) - 1) = (j : Int) := by rw [i64_w]; exact hw1
        have hj1 : (j : Int) < (l0.length : Int) := by omega
        have hj2 : j < l0.length := by omega
        have hl1 : decide ((j : Int) < (l0.length : Int)) = true := decide_eq_true (by omega)
        have hl2 : decide (j < l0.length) = true := decide_eq_true (by omega)
        obtain ⟨ad2, e2, _, _, _, hy3⟩ := at_T104 HR0.out (j : Int) (by omega) (by omega)
        cases e2
        obtain ⟨y, hy⟩ : ∃ y, rd_T104 l0 (j : Int) = y := ⟨_, rfl⟩
        have HP2 := A_ (HP.out (by omega))
        rw [← hj, hy] at HP2
        rw [hy] at hy3
        simp only [Int.toNat_natCast] at hy3
        have j4 : CelR wr _ _ := ⟨hW HB hy3⟩
        clear hy hy3 HP hj
        by_cases h5 : y.f2 ≤ x.f2
        ·have h51 : decide (y.f2 > x.f2) = false := decide_eq_false (by omega)
         have h52 : decide (x.f2 < y.f2) = false := decide_eq_false (by omega)
         have HN : Aside0 ((Q.logGo (Q.prevM l0 (i + 1)) (l0.drop (i + 1)) && decide (l0.length ≤ 30)) = r) := ⟨by rw [← HQ.out, HD.out, HE.out, show decide (Q.prevM l0 i ≤ x.f2) = true from decide_eq_true (by rw [HP2.out]; exact h5)]; rfl⟩
         clear HQ HD HE HP2 HZ HR0
         go_wp2_with (first         | ((with_reducible refine gate_dst (N := 4) rfl ?_); refine bV #[.int .i64 0, .int .i64 0, .int .i64 0, .int .i64 0] 104 fun g w1 j1 j2 j3 => ?_)         | (go_at_call 88; (first | (with_reducible refine (W1.out _).mono ?_) | (with_reducible refine (W2.out _).mono ?_) | (with_reducible refine (W3.out _).mono ?_) | (with_reducible refine (W4.out _).mono ?_)); rintro e w' ⟨rfl, ⟨nd, rfl⟩⟩))
         repeat (go_quiet (first | (go_at_call 88; (first | (with_reducible refine (W1.out _).mono ?_) | (with_reducible refine (W2.out _).mono ?_) | (with_reducible refine (W3.out _).mono ?_) | (with_reducible refine (W4.out _).mono ?_)); rintro e w' ⟨rfl, ⟨nd, rfl⟩⟩; exact ⟨rfl, _, World.drewN_drewN _ _ _⟩)); try go_wp2)
         go_roundg (l0.length - i)
         case measure => have := HI1.out; omega
         case rel => exact ⟨i + 1, by go_num, ⟨by omega⟩, ⟨by omega⟩, HN, ⟨From.out⟩⟩
        ·have h51 : decide (y.f2 > x.f2) = true := decide_eq_true (by omega)
         have h52 : decide (x.f2 < y.f2) = true := decide_eq_true (by omega)
         obtain rfl : false = r := by rw [← HQ.out, HD.out, HE.out, show decide (Q.prevM l0 i ≤ x.f2) = false from decide_eq_false (by rw [HP2.out]; exact h5)]; rfl
         clear HQ HD HE HP2 HZ HR0
         go_wp2_with (first         | ((with_reducible refine gate_dst (N := 4) rfl ?_); refine bV #[.int .i64 0, .int .i64 0, .int .i64 0, .int .i64 0] 104 fun g w1 j1 j2 j3 => ?_)         | (go_at_call 88; (first | (with_reducible refine (W1.out _).mono ?_) | (with_reducible refine (W2.out _).mono ?_) | (with_reducible refine (W3.out _).mono ?_) | (with_reducible refine (W4.out _).mono ?_)); rintro e w' ⟨rfl, ⟨nd, rfl⟩⟩))
         repeat (go_quiet (first | (go_at_call 88; (first | (with_reducible refine (W1.out _).mono ?_) | (with_reducible refine (W2.out _).mono ?_) | (with_reducible refine (W3.out _).mono ?_) | (with_reducible refine (W4.out _).mono ?_)); rintro e w' ⟨rfl, ⟨nd, rfl⟩⟩; exact ⟨rfl, _, World.drewN_drewN _ _ _⟩)); try go_wp2)
         go_ret
         exact ⟨rfl, From.out⟩
end Go.Proofs.YtanhnhkcpbdfmaaGreat.P
namespace Go.Proofs.YtanhnhkcpbdfmaaGreat.P
set_option maxHeartbeats 8000000
set_option maxRecDepth 100000
open Go.RowKit Go.Proofs.YtanhnhkcpbdfmaaGreatW.PrintWords Go.Proofs.YtanhnhkcpbdfmaaGreatW.PrintLast Go.Proofs.YtanhnhkcpbdfmaaGreatW.PrintMore
attribute [local go_sem] max2_int min2_int max_two min_two max_three min_three max_four min_four
attribute [local go_sem high] eqA74
mutual
def spec_OpenFaults.l0 : Nat → List (S104) → List (S104) → Int → Option ((List (S104)))
 | 0, _, _, _ => none
 | k + 1, x0, x3, x4 => if x4 < (x0.length : Int) then ((spec_LogOk.f k x0).bind fun t406 => (spec_OpenFaults.j1 k x0 x3 x4 t406)) else (spec_OpenFaults.j1 k x0 x3 x4 false)
def spec_OpenFaults.j1 : Nat → List (S104) → List (S104) → Int → Bool → Option ((List (S104)))
 | 0, _, _, _, _ => none
 | k + 1, x0, x3, x4, x16 => if x16 = true then (if 0 ≤ x4 then (if x4 < (x0.length : Int) then (spec_OpenFaults.l1 k x0 x3 x4 (((rd_T104 x0 x4).f1) != 0) (wrap64 (x4 + 1))) else (none)) else (none)) else (some x3)
def spec_OpenFaults.l1 : Nat → List (S104) → List (S104) → Int → Bool → Int → Option ((List (S104)))
 | 0, _, _, _, _, _ => none
 | k + 1, x0, x3, x4, x5, x6 => if x6 < (x0.length : Int) then (if x5 = true then (if 0 ≤ x6 then (if 0 ≤ x4 then (if x4 < (x0.length : Int) then (spec_OpenFaults.l1 k x0 x3 x4 (!(((rd_T104 x0 x6).f0.f0) == ((rd_T104 x0 x4).f0.f0)) || (!(((rd_T104 x0 x6).f0.f1) == ((rd_T104 x0 x4).f0.f1)))) (wrap64 (x6 + 1))) else (none)) else (none)) else (none)) else (spec_OpenFaults.l1 k x0 x3 x4 false (wrap64 (x6 + 1)))) else (if x5 = true then (if 0 ≤ x4 then (if x4 < (x0.length : Int) then (if x3.length < 4398046511104 then (spec_OpenFaults.l2 k x0 (x3 ++ [(⟨(⟨(rd_T104 x0 x4).f0.f0, (rd_T104 x0 x4).f0.f1⟩ : S74), (rd_T104 x0 x4).f1, (rd_T104 x0 x4).f2⟩ : S104)]) x4 (x3.length : Int)) else (none)) else (none)) else (none)) else (spec_OpenFaults.l0 k x0 x3 (wrap64 (x4 + 1))))
def spec_OpenFaults.l2 : Nat → List (S104) → List (S104) → Int → Int → Option ((List (S104)))
 | 0, _, _, _, _ => none
 | k + 1, x0, x3, x4, x7 => if x7 > 0 then (if 0 ≤ x4 then (if x4 < (x0.length : Int) then (if 0 ≤ (wrap64 (x7 - 1)) then (if (wrap64 (x7 - 1)) < (x3.length : Int) then ((spec_l35Before.f ((rd_T104 x0 x4).f0.f0) ((rd_T104 x0 x4).f0.f1) ((rd_T104 x0 x4).f1) ((rd_T104 x0 x4).f2) ((rd_T104 x3 (wrap64 (x7 - 1))).f0.f0) ((rd_T104 x3 (wrap64 (x7 - 1))).f0.f1) ((rd_T104 x3 (wrap64 (x7 - 1))).f1) ((rd_T104 x3 (wrap64 (x7 - 1))).f2)).bind fun t416 => (if t416 = true then (if 0 ≤ x7 then (if x7 < (x3.length : Int) then (spec_OpenFaults.l2 k x0 (x3.set (x7 : Int).toNat (⟨(⟨(rd_T104 x3 (wrap64 (x7 - 1))).f0.f0, (rd_T104 x3 (wrap64 (x7 - 1))).f0.f1⟩ : S74), (rd_T104 x3 (wrap64 (x7 - 1))).f1, (rd_T104 x3 (wrap64 (x7 - 1))).f2⟩ : S104)) x4 (wrap64 (x7 - 1))) else (none)) else (none)) else (if 0 ≤ x7 then (if x7 < (x3.length : Int) then (spec_OpenFaults.l0 k x0 (x3.set (x7 : Int).toNat (⟨(⟨(rd_T104 x0 x4).f0.f0, (rd_T104 x0 x4).f0.f1⟩ : S74), (rd_T104 x0 x4).f1, (rd_T104 x0 x4).f2⟩ : S104)) (wrap64 (x4 + 1))) else (none)) else (none)))) else (none)) else (none)) else (none)) else (none)) else (if 0 ≤ x4 then (if x4 < (x0.length : Int) then (if 0 ≤ x7 then (if x7 < (x3.length : Int) then (spec_OpenFaults.l0 k x0 (x3.set (x7 : Int).toNat (⟨(⟨(rd_T104 x0 x4).f0.f0, (rd_T104 x0 x4).f0.f1⟩ : S74), (rd_T104 x0 x4).f1, (rd_T104 x0 x4).f2⟩ : S104)) (wrap64 (x4 + 1))) else (none)) else (none)) else (none)) else (none))
end
def spec_OpenFaults.f (k : Nat) (l0 : List (S104)) : Option ((List (S104))) := spec_OpenFaults.l0 k l0 (([] : List (S104))) 0
def spec_OpenFaults.T9 : Bool × List (List Nat × List Nat) := (true, [([], []), ([0], [0]), ([1], [1]), ([1], [1]), ([2, 3, 1], [1, 2, 3]), ([4, 1], [1, 4]), ([5, 1], [1, 5]), ([1], [1]), ([1], [1]), ([7, 8, 1], [1, 7, 8]), ([9, 1], [1, 9]), ([10, 1], [1, 10]), ([6, 11, 1], [1, 6, 11]), ([1, 12], [1, 12]), ([13, 1, 0, 1, 2, 3, 4, 5, 6, 7, 8, 9, 10, 11, 12, 13], [0, 13])])
def spec_OpenFaults.B9 : List Nat := [0, 1, 3, 3, 15, 31, 63, 3, 3, 387, 899, 1923, 4095, 8191, 16383]
theorem spec_OpenFaults.tab9 : rtab .any (opsOf Tryz.f128 9) = spec_OpenFaults.T9 := by kernel_rfl
theorem spec_OpenFaults.bits9 : waitsOk spec_OpenFaults.T9.2 spec_OpenFaults.B9 = true := by kernel_rfl
def spec_OpenFaults.T13 : Bool × List (List Nat × List Nat) := (true, [([], []), ([0], [0]), ([1], [1]), ([2], [2]), ([2], [2]), ([3, 4, 2], [2, 3, 4]), ([5, 2], [2, 5]), ([2], [2]), ([2], [2]), ([8, 2], [2, 8]), ([7, 9, 2], [2, 7, 9]), ([10, 2], [2, 10]), ([6, 11, 2, 2], [2, 6, 11]), ([2, 12], [2, 12])])
def spec_OpenFaults.B13 : List Nat := [0, 1, 3, 7, 7, 31, 63, 7, 7, 263, 903, 1927, 4095, 8191]
theorem spec_OpenFaults.tab13 : rtab .any (opsOf Tryz.f128 13) = spec_OpenFaults.T13 := by kernel_rfl
theorem spec_OpenFaults.bits13 : waitsOk spec_OpenFaults.T13.2 spec_OpenFaults.B13 = true := by kernel_rfl
theorem spec_OpenFaults.calls (k : Nat) (A0 : Option Addr) (c0 : Nat) (l0 : List (S104)) (r : List (S104)) (w : World) (hr0 : Kd.C k104 w A0 l0.length l0) (hc0 : l0.length ≤ c0) (h : spec_OpenFaults.f k l0 = some r) :
  Calls Tryz.prog 128 #[.slice A0 l0.length c0] w fun e w' => ∃ v0_ : Value, e = .returned (v0_) ∧ Kd.R k104 104 w' w.heap.size (fun _ => True) v0_ r ∧ Below w.heap.size w w' := by
 have hu74 := Tryz.underlying74
 have hu104 := Tryz.underlying104
 have HR0 := A_ hr0
 have HC0 := A_ hc0
 clear hr0 hc0
 have HB := A_ (Below.refl w.heap.size w)
 have H : (spec_OpenFaults.l0 k l0 (([] : List (S104))) 0) = some r := h
 clear h
 obtain ⟨y403, hy403⟩ : ∃ y_ : List (S104), y_ = (([] : List (S104))) := ⟨_, rfl⟩
 replace H : (spec_OpenFaults.l0 k l0 y403 0) = some r := by first | (rw [hy403]; with_reducible exact H) | (have H2_ := (Option.bind_some _ _).symm.trans H; rw [hy403]; with_reducible exact H2_) | (have H2_ := (Option.bind_some _ _).symm.trans H; with_reducible exact H2_) | with_reducible exact H | (rw [hy403]; exact H) | exact H
 have Ny403 := A_ hy403
 clear hy403
 have H' := A_ H
 clear H
 go_enter Tryz.func128, Tryz.ntmps128
 go_wp2_with (first | ((with_reducible refine gate_dst (N := 8) rfl ?_); refine Kd.R_lit k104 _ 104 ?hg (N := 8) ?hd (xs := ([] : List (S104))) (inner := []) (ok := fun _ => True) (okp := fun _ => True) ?hr ?hp (fun _ hk => hk) trivial (Below.refl _ _) (Nat.le_refl _) (by simp) ?_; (case hd => rfl); (case hg => rfl); (case hr => first | (go_simp; done) | (go_simp; rfl)); (case hp => exact (Reps.none _ _)); intro v404 w2 ho3 hb hg_ hnew_; clear hg_ hnew_; (first | rw [← Ny403.out] at ho3 | (simp only [Int.reduceToNat] at ho3; rw [← Ny403.out] at ho3)); have n0_ := A_ (Kd.R_lower ho3 (below_size (oB HB))); have n1_ := A_ (below_step (oB HB) hb); clear HB; have HO405 := n0_; have HB := n1_; clear n0_ n1_; clear hb ho3))
 go_loopg [3, 4] k (fun kq v3 v4 w' => ∃ (x3_1 : List (S104)) (x4_1 : Int), v4 = .int .i64 x4_1 ∧ Aside0 (spec_OpenFaults.l0 kq l0 x3_1 x4_1 = some r) ∧ Aside0 (kq ≤ k) ∧ Aside0 (Kd.R k104 104 w' w.heap.size (fun _ => True) v3 x3_1) ∧ Aside0 (Below w.heap.size w w'))
 case atStart => exact ⟨(y403), (0), eS, H', ⟨Nat.le_refl _⟩, ⟨oR HO405⟩, ⟨oB HB⟩⟩
 case round =>
  clear H'
  try clear c1
  try clear p2
  obtain ⟨x3_1, x4_1, rfl, HA, HK1, HO_3, HB⟩ := hrel
  cases gk with
  | zero => exact absurd HA.out (by simp [spec_OpenFaults.l0])
  | succ k1 =>
   have H := HA.out
   clear HA
   simp only [spec_OpenFaults.l0] at H
   have HC4 := A_ H
   clear H
   go_upto_region 3 with (fail)
   go_cut [16] (fun v16 wc => ∃ (kq : Nat) (x16_3 : Bool), v16 = .bool x16_3 ∧ Aside0 (spec_OpenFaults.j1 kq l0 x3_1 x4_1 x16_3 = some r) ∧ Aside0 (kq ≤ k1) ∧ Aside0 (Kd.R k104 104 wc w.heap.size (fun _ => True) u3 x3_1) ∧ Aside0 (Below w.heap.size w wc))
   case first =>
    have H := HC4.out
    clear HC4
    by_cases c5 : x4_1 < (l0.length : Int)
    ·rw [if_pos c5] at H
     have c5b0 : decide (x4_1 < (l0.length : Int)) = true := decide_eq_true c5
     clear c5
     (first | rw [c5b0] | (simp only [i64_w, i32_w]; rw [c5b0]) | skip)
     replace H := Option.bind_eq_some_iff.mp H
     obtain ⟨t406, A60, H⟩ := H
     (try dsimp only at H)
     have A6 := A_ A60
     clear A60
     have H' := A_ H
     clear H
     go_wp2_with (first | (go_at_call 87; (with_reducible refine (spec_LogOk.calls k1 _ _ l0 t406 _ ?side1 ?side2 A6.out).mono ?_); (case side1 => exact oc_ HR0.out); (case side2 => exact HC0.out); rintro e w7 ⟨rfl, hb⟩; have n0_ := A_ (Kd.R_below (oR HO_3) hb); have n1_ := A_ (below_step (oB HB) hb); clear HO_3; clear HB; have HO_3 := n0_; have HB := n1_; clear n0_ n1_; (try clear hb); (try clear hb2); (try clear hk); (try clear hi)))
     go_meet
     case rel => exact ⟨_, (t406), eS, H', ⟨by have := HK1.out; first | omega | exact Nat.le_refl _⟩, ⟨oR HO_3⟩, ⟨oB HB⟩⟩
    ·rw [if_neg c5] at H
     have c5b0 : decide (x4_1 < (l0.length : Int)) = false := decide_eq_false c5
     clear c5
     (first | rw [c5b0] | (simp only [i64_w, i32_w]; rw [c5b0]) | skip)
     have H' := A_ H
     clear H
     go_wp2
     go_meet
     case rel => exact ⟨_, (false), eS, H', ⟨by have := HK1.out; first | omega | exact Nat.le_refl _⟩, ⟨oR HO_3⟩, ⟨oB HB⟩⟩
   case rest =>
    clear HC4
    try clear c1
    try clear p2
    try clear c5
    try clear c5b0
    try clear p2
    obtain ⟨kq, x16_3, rfl, HA, HJ3, HO_3, HB⟩ := hcut
    cases kq with
    | zero => exact absurd HA.out (by simp [spec_OpenFaults.j1])
    | succ kj3 =>
     have H := HA.out
     clear HA
     simp only [spec_OpenFaults.j1] at H
     by_cases c8 : x16_3 = true
     ·subst c8
      rw [if_pos rfl] at H
      by_cases c9 : 0 ≤ x4_1
      ·rw [if_pos c9] at H
       have c9b0 : decide (0 ≤ x4_1) = true := decide_eq_true c9
       clear c9
       by_cases c10 : x4_1 < (l0.length : Int)
       ·rw [if_pos c10] at H
        have c10b0 : decide (x4_1 < (l0.length : Int)) = true := decide_eq_true c10
        clear c10
        have H' := A_ H
        clear H
        have p407 : 0 ≤ (x4_1 : Int) := oD
        have q407 : x4_1 < (l0.length : Int) := oD
        obtain ⟨ad407, e407, hx407_0, hx407_1, hx407_2, hx407_3⟩ := at_T104 HR0.out x4_1 p407 q407
        cases e407
        replace hx407_0 := hW HB hx407_0
        replace hx407_1 := hW HB hx407_1
        replace hx407_2 := hW HB hx407_2
        replace hx407_3 := hW HB hx407_3
        replace p407 := eq_true p407
        replace q407 := eq_true q407
        go_wp2
        go_loopg [5, 6] kj3 (fun kq v5 v6 w' => ∃ (x5_3 : Bool) (x6_3 : Int), v5 = .bool x5_3 ∧ v6 = .int .i64 x6_3 ∧ Aside0 (spec_OpenFaults.l1 kq l0 x3_1 x4_1 x5_3 x6_3 = some r) ∧ Aside0 (kq ≤ kj3) ∧ Aside0 (Kd.R k104 104 w' w.heap.size (fun _ => True) u3 x3_1) ∧ Aside0 (Below w.heap.size w w'))
        case atStart => exact ⟨((((rd_T104 l0 x4_1).f1) != 0)), (wrap64 (x4_1 + 1)), eS, eS, H', ⟨Nat.le_refl _⟩, ⟨oR HO_3⟩, ⟨oB HB⟩⟩
        case round =>
         clear H'
         try clear c1
         try clear p2
         try clear p4
         try clear q4
         try clear hx4
         try clear c5
         try clear c5b0
         try clear p6
         try clear c8
         try clear c9
         try clear c9b0
         try clear c10
         try clear c10b0
         try clear hx407_0
         try clear hx407_1
         try clear hx407_2
         try clear hx407_3
         try clear p2
         try clear p407
         try clear q407
         obtain ⟨x5_3, x6_3, rfl, rfl, HA, HK3, HO_3, HB⟩ := hrel
         cases gk with
         | zero => exact absurd HA.out (by simp [spec_OpenFaults.l1])
         | succ k3 =>
          have H := HA.out
          clear HA
          simp only [spec_OpenFaults.l1] at H
          by_cases c11 : x6_3 < (l0.length : Int)
          ·rw [if_pos c11] at H
           have c11b0 : decide (x6_3 < (l0.length : Int)) = true := decide_eq_true c11
           clear c11
           by_cases c12 : x5_3 = true
           ·subst c12
            rw [if_pos rfl] at H
            by_cases c13 : 0 ≤ x6_3
            ·rw [if_pos c13] at H
             have c13b0 : decide (0 ≤ x6_3) = true := decide_eq_true c13
             clear c13
             by_cases c14 : 0 ≤ x4_1
             ·rw [if_pos c14] at H
              have c14b0 : decide (0 ≤ x4_1) = true := decide_eq_true c14
              clear c14
              by_cases c15 : x4_1 < (l0.length : Int)
              ·rw [if_pos c15] at H
               have c15b0 : decide (x4_1 < (l0.length : Int)) = true := decide_eq_true c15
               clear c15
               have H' := A_ H
               clear H
               try go_wp2
               have n0_ := A_ (Kd.R_drew HO_3.out)
               have n1_ := A_ (below_drew1 HB.out)
               clear HO_3
               clear HB
               have HO_3 := n0_
               have HB := n1_
               clear n0_ n1_
               have p408 : 0 ≤ (x6_3 : Int) := oD
               have q408 : x6_3 < (l0.length : Int) := oD
               obtain ⟨ad408, e408, hx408_0, hx408_1, hx408_2, hx408_3⟩ := at_T104 HR0.out x6_3 p408 q408
               have hw408_3 := hx408_3
               have hw408_2 := hx408_2
               have hw408_1 := hx408_1
               have hw408_0 := hx408_0
               obtain rfl : ad407 = ad408 := (by injection e408)
               replace hx408_0 := hW HB hx408_0
               replace hx408_1 := hW HB hx408_1
               replace hx408_2 := hW HB hx408_2
               replace hx408_3 := hW HB hx408_3
               replace p408 := eq_true p408
               replace q408 := eq_true q408
               have p409 : 0 ≤ (x4_1 : Int) := oD
               have q409 : x4_1 < (l0.length : Int) := oD
               obtain ⟨ad409, e409, hx409_0, hx409_1, hx409_2, hx409_3⟩ := at_T104 HR0.out x4_1 p409 q409
               have hw409_3 := hx409_3
               have hw409_2 := hx409_2
               have hw409_1 := hx409_1
               have hw409_0 := hx409_0
               obtain rfl : ad407 = ad409 := (by injection e409)
               replace hx409_0 := hW HB hx409_0
               replace hx409_1 := hW HB hx409_1
               replace hx409_2 := hW HB hx409_2
               replace hx409_3 := hW HB hx409_3
               replace p409 := eq_true p409
               replace q409 := eq_true q409
               refine start_ (n := 15) (S := fun w' => w'.cell? (ad407.add ((x6_3).toNat * 4)) = some (.int .i64 ((rd_T104 l0 x6_3).f0.f0)) ∧ w'.cell? ⟨(ad407.add ((x6_3).toNat * 4)).block, (ad407.add ((x6_3).toNat * 4)).off + 1, none⟩ = some (.int .i64 ((rd_T104 l0 x6_3).f0.f1)) ∧ w'.cell? ⟨(ad407.add ((x6_3).toNat * 4)).block, (ad407.add ((x6_3).toNat * 4)).off + 2, none⟩ = some (.int .i64 ((rd_T104 l0 x6_3).f1)) ∧ w'.cell? ⟨(ad407.add ((x6_3).toNat * 4)).block, (ad407.add ((x6_3).toNat * 4)).off + 3, none⟩ = some (.int .i64 ((rd_T104 l0 x6_3).f2)) ∧ w'.cell? (ad407.add ((x4_1).toNat * 4)) = some (.int .i64 ((rd_T104 l0 x4_1).f0.f0)) ∧ w'.cell? ⟨(ad407.add ((x4_1).toNat * 4)).block, (ad407.add ((x4_1).toNat * 4)).off + 1, none⟩ = some (.int .i64 ((rd_T104 l0 x4_1).f0.f1)) ∧ w'.cell? ⟨(ad407.add ((x4_1).toNat * 4)).block, (ad407.add ((x4_1).toNat * 4)).off + 2, none⟩ = some (.int .i64 ((rd_T104 l0 x4_1).f1)) ∧ w'.cell? ⟨(ad407.add ((x4_1).toNat * 4)).block, (ad407.add ((x4_1).toNat * 4)).off + 3, none⟩ = some (.int .i64 ((rd_T104 l0 x4_1).f2))) (ds := []) #[false, false, false, false, false, false, false, false, false, false, false, false, false, false, false] (by kernel_rfl) rfl rfl ⟨(hW HB hw408_0), (hW HB hw408_1), (hW HB hw408_2), (hW HB hw408_3), (hW HB hw409_0), (hW HB hw409_1), (hW HB hw409_2), (hW HB hw409_3)⟩ (fun hHeld => ?_); refine with_tabW spec_OpenFaults.tab9 spec_OpenFaults.bits9 (fun HT_ HW_ => ?_)
               generalize wr.drew = w16 at HO_3 HB hx408_0 hx408_1 hx408_2 hx408_3 hx409_0 hx409_1 hx409_2 hx409_3 hHeld ⊢
               refine pA 0 (some 33) HT_.out ?_
               refine pA 1 (some 34) HT_.out ?_
               refine pA 2 (some 35) HT_.out ?_
               refine pA 3 (some 36) HT_.out ?_
               refine pA 4 (some 37) HT_.out ?_
               refine pA 5 (some 38) HT_.out ?_
               refine pA 7 (some 40) HT_.out ?_
               refine pA 8 (some 41) HT_.out ?_
               refine pA 9 (some 42) HT_.out ?_
               refine pA 10 (some 43) HT_.out ?_
               refine pT 6 (some 39) HT_.out HW_.out hHeld ?_
               refine pT 11 (some 44) HT_.out HW_.out hHeld ?_
               refine pA 12 (some 45) HT_.out ?_
               refine pA 13 (some 46) HT_.out ?_
               refine pA 14 (some 5) HT_.out ?_
               refine done_ (done_of HT_.out (by kernel_rfl)) ?_
               try go_wp2
               go_roundg k3
               case measure => have := HK1.out; have := HJ3.out; have := HK3.out; omega
               case rel => exact ⟨((!(((rd_T104 l0 x6_3).f0.f0) == ((rd_T104 l0 x4_1).f0.f0)) || (!(((rd_T104 l0 x6_3).f0.f1) == ((rd_T104 l0 x4_1).f0.f1))))), (wrap64 (x6_3 + 1)), eS, eS, H', ⟨by have := HK1.out; have := HJ3.out; have := HK3.out; omega⟩, ⟨oR HO_3⟩, ⟨oB HB⟩⟩
              ·rw [if_neg c15] at H
               exact absurd H (by simp)
             ·rw [if_neg c14] at H
              exact absurd H (by simp)
            ·rw [if_neg c13] at H
             exact absurd H (by simp)
           ·replace c12 := Bool.eq_false_iff.mpr c12
            subst c12
            rw [if_neg (show ¬ (false = true) by decide)] at H
            have H' := A_ H
            clear H
            try go_wp2
            have n0_ := A_ (Kd.R_drew HO_3.out)
            have n1_ := A_ (below_drew1 HB.out)
            clear HO_3
            clear HB
            have HO_3 := n0_
            have HB := n1_
            clear n0_ n1_
            refine start_ (n := 15) (S := fun w' => True) (ds := []) #[false, false, false, false, false, false, false, false, false, false, false, false, false, false, false] (by kernel_rfl) rfl rfl trivial (fun hHeld => ?_); refine with_tabW spec_OpenFaults.tab9 spec_OpenFaults.bits9 (fun HT_ HW_ => ?_)
            generalize wr.drew = w17 at HO_3 HB hHeld ⊢
            refine pA 0 (some 33) HT_.out ?_
            refine pA 1 (some 34) HT_.out ?_
            refine pU 2 (some 35) HT_.out ?_
            refine pU 3 (some 36) HT_.out ?_
            refine pU 4 (some 37) HT_.out ?_
            refine pU 5 (some 38) HT_.out ?_
            refine pU 6 (some 39) HT_.out ?_
            refine pU 7 (some 40) HT_.out ?_
            refine pU 8 (some 41) HT_.out ?_
            refine pU 9 (some 42) HT_.out ?_
            refine pU 10 (some 43) HT_.out ?_
            refine pU 11 (some 44) HT_.out ?_
            refine pU 12 (some 45) HT_.out ?_
            refine pA 13 (some 46) HT_.out ?_
            refine pA 14 (some 5) HT_.out ?_
            refine done_ (done_of HT_.out (by kernel_rfl)) ?_
            try go_wp2
            go_roundg k3
            case measure => have := HK1.out; have := HJ3.out; have := HK3.out; omega
            case rel => exact ⟨(false), (wrap64 (x6_3 + 1)), eS, eS, H', ⟨by have := HK1.out; have := HJ3.out; have := HK3.out; omega⟩, ⟨oR HO_3⟩, ⟨oB HB⟩⟩
          ·rw [if_neg c11] at H
           have c11b0 : decide (x6_3 < (l0.length : Int)) = false := decide_eq_false c11
           clear c11
           by_cases c18 : x5_3 = true
           ·subst c18
            rw [if_pos rfl] at H
            by_cases c19 : 0 ≤ x4_1
            ·rw [if_pos c19] at H
             have c19b0 : decide (0 ≤ x4_1) = true := decide_eq_true c19
             clear c19
             by_cases c20 : x4_1 < (l0.length : Int)
             ·rw [if_pos c20] at H
              have c20b0 : decide (x4_1 < (l0.length : Int)) = true := decide_eq_true c20
              clear c20
              by_cases c21 : x3_1.length < 4398046511104
              ·rw [if_pos c21] at H
               have LMc21 := A_ c21
               clear c21
               obtain ⟨y411, hy411⟩ : ∃ y_ : List (S104), y_ = (x3_1 ++ [(⟨(⟨(rd_T104 l0 x4_1).f0.f0, (rd_T104 l0 x4_1).f0.f1⟩ : S74), (rd_T104 l0 x4_1).f1, (rd_T104 l0 x4_1).f2⟩ : S104)]) := ⟨_, rfl⟩
               replace H : (spec_OpenFaults.l2 k3 l0 y411 x4_1 (x3_1.length : Int)) = some r := by first | (rw [hy411]; with_reducible exact H) | (have H2_ := (Option.bind_some _ _).symm.trans H; rw [hy411]; with_reducible exact H2_) | (have H2_ := (Option.bind_some _ _).symm.trans H; with_reducible exact H2_) | with_reducible exact H | (rw [hy411]; exact H) | exact H
               have Ny411 := A_ hy411
               clear hy411
               have H' := A_ H
               clear H
               obtain ⟨Ao22, co22, eo22⟩ := Kd.R_slice HO_3.out
               subst eo22
               have p410 : 0 ≤ (x4_1 : Int) := oD
               have q410 : x4_1 < (l0.length : Int) := oD
               obtain ⟨ad410, e410, hx410_0, hx410_1, hx410_2, hx410_3⟩ := at_T104 HR0.out x4_1 p410 q410
               obtain rfl : ad407 = ad410 := (by injection e410)
               replace hx410_0 := hW HB hx410_0
               replace hx410_1 := hW HB hx410_1
               replace hx410_2 := hW HB hx410_2
               replace hx410_3 := hW HB hx410_3
               replace p410 := eq_true p410
               replace q410 := eq_true q410
               go_wp2_with (first | ((with_reducible refine gate_builtin (b := .append) (xs := #[.tmp 51, .tmp 56]) rfl ?_); at_builtin; refine Kd.R_append k104 (w0 := w) w.heap.size rfl (.tmp 51) (.tmp 56) 35 104 (.agg #[(.int .i64 0), (.int .i64 0), (.int .i64 0), (.int .i64 0)]) 32 rfl Tryz.underlying35 info104 rfl (by decide) (by omega) (.slice Ao22 x3_1.length co22) x3_1 (⟨(⟨(rd_T104 l0 x4_1).f0.f0, (rd_T104 l0 x4_1).f0.f1⟩ : S74), (rd_T104 l0 x4_1).f1, (rd_T104 l0 x4_1).f2⟩ : S104) [.int .i64 ((rd_T104 l0 x4_1).f0.f0), .int .i64 ((rd_T104 l0 x4_1).f0.f1), .int .i64 ((rd_T104 l0 x4_1).f1), .int .i64 ((rd_T104 l0 x4_1).f2)] (fun _ => True) (fun _ => False) rfl rfl ?aP (fun _ hk => hk.elim) ?aF ?aO ?aB ?aS ?aL ?_; (case aP => exact k104_mkM _ _ _ (⟨(⟨(rd_T104 l0 x4_1).f0.f0, (rd_T104 l0 x4_1).f0.f1⟩ : S74), (rd_T104 l0 x4_1).f1, (rd_T104 l0 x4_1).f2⟩ : S104)); (case aB => exact (oB HB)); (case aF => exact (fun _ _ => trivial)); (case aO => exact (oR HO_3)); (case aS => exact (below_size (oB HB))); (case aL => have := LMc21.out; omega); intro v412 w23 ho hb hg hat; rw [← Ny411.out] at ho; have n0_ := A_ (hb); have n1_ := A_ (ho); clear HB; clear HO_3; have HB := n0_; have HO413 := n1_; clear n0_ n1_; clear ho hb hg hat))
               go_loopg [7] k3 (fun kq v7 w' => ∃ (x3_4 : List (S104)) (x7_4 : Int), v7 = .int .i64 x7_4 ∧ Aside0 (spec_OpenFaults.l2 kq l0 x3_4 x4_1 x7_4 = some r) ∧ Aside0 (kq ≤ k3) ∧ Aside0 (Kd.R k104 104 w' w.heap.size (fun _ => True) v412 x3_4) ∧ Aside0 (Below w.heap.size w w'))
               case atStart => exact ⟨(y411), ((x3_1.length : Int)), eS, H', ⟨Nat.le_refl _⟩, ⟨oR HO413⟩, ⟨oB HB⟩⟩
               case round =>
                clear H'
                try clear c1
                try clear c2
                try clear p2
                try clear p4
                try clear q4
                try clear hx4
                try clear c5
                try clear c5b0
                try clear p6
                try clear c8
                try clear c9
                try clear c9b0
                try clear c10
                try clear c10b0
                try clear c11
                try clear c11b0
                try clear c12
                try clear c13
                try clear c13b0
                try clear c14
                try clear c14b0
                try clear c15
                try clear c15b0
                try clear c18
                try clear c19
                try clear c19b0
                try clear c20
                try clear c20b0
                try clear c21
                try clear hx407_0
                try clear hx407_1
                try clear hx407_2
                try clear hx407_3
                try clear hx408_0
                try clear hx408_1
                try clear hx408_2
                try clear hx408_3
                try clear hx409_0
                try clear hx409_1
                try clear hx409_2
                try clear hx409_3
                try clear hx410_0
                try clear hx410_1
                try clear hx410_2
                try clear hx410_3
                try clear p2
                try clear p4
                try clear p407
                try clear p408
                try clear p409
                try clear p410
                try clear p6
                try clear q4
                try clear q407
                try clear q408
                try clear q409
                try clear q410
                obtain ⟨x3_4, x7_4, rfl, HA, HK4, HO_3, HB⟩ := hrel
                cases gk with
                | zero => exact absurd HA.out (by simp [spec_OpenFaults.l2])
                | succ k4 =>
                 have H := HA.out
                 clear HA
                 simp only [spec_OpenFaults.l2] at H
                 by_cases c24 : x7_4 > 0
                 ·rw [if_pos c24] at H
                  have c24b0 : decide (0 < x7_4) = true := decide_eq_true c24
                  clear c24
                  by_cases c25 : 0 ≤ x4_1
                  ·rw [if_pos c25] at H
                   have c25b0 : decide (0 ≤ x4_1) = true := decide_eq_true c25
                   clear c25
                   by_cases c26 : x4_1 < (l0.length : Int)
                   ·rw [if_pos c26] at H
                    have c26b0 : decide (x4_1 < (l0.length : Int)) = true := decide_eq_true c26
                    clear c26
                    obtain ⟨ji27, hji27⟩ : ∃ j_ : Int, (wrap64 (x7_4 - 1)) = j_ := ⟨_, rfl⟩
                    replace H : (if 0 ≤ (ji27) then (if (ji27) < (x3_4.length : Int) then ((spec_l35Before.f ((rd_T104 l0 x4_1).f0.f0) ((rd_T104 l0 x4_1).f0.f1) ((rd_T104 l0 x4_1).f1) ((rd_T104 l0 x4_1).f2) ((rd_T104 x3_4 (ji27)).f0.f0) ((rd_T104 x3_4 (ji27)).f0.f1) ((rd_T104 x3_4 (ji27)).f1) ((rd_T104 x3_4 (ji27)).f2)).bind fun t416 => (if t416 = true then (if 0 ≤ x7_4 then (if x7_4 < (x3_4.length : Int) then (spec_OpenFaults.l2 k4 l0 (x3_4.set (x7_4 : Int).toNat (⟨(⟨(rd_T104 x3_4 (ji27)).f0.f0, (rd_T104 x3_4 (ji27)).f0.f1⟩ : S74), (rd_T104 x3_4 (ji27)).f1, (rd_T104 x3_4 (ji27)).f2⟩ : S104)) x4_1 ji27) else (none)) else (none)) else (if 0 ≤ x7_4 then (if x7_4 < (x3_4.length : Int) then (spec_OpenFaults.l0 k4 l0 (x3_4.set (x7_4 : Int).toNat (⟨(⟨(rd_T104 l0 x4_1).f0.f0, (rd_T104 l0 x4_1).f0.f1⟩ : S74), (rd_T104 l0 x4_1).f1, (rd_T104 l0 x4_1).f2⟩ : S104)) (wrap64 (x4_1 + 1))) else (none)) else (none)))) else (none)) else (none)) = some r := by first | (rw [hji27] at H; exact H) | (simp only [hji27] at H ⊢; exact H)
                    have hji27w : (IntKind.i64.wrap (x7_4 - 1)) = ji27 := (i64_w _).trans hji27
                    by_cases c28 : 0 ≤ (ji27)
                    ·rw [if_pos c28] at H
                     have c28b0 : decide (0 ≤ (ji27)) = true := decide_eq_true c28
                     clear c28
                     by_cases c29 : (ji27) < (x3_4.length : Int)
                     ·rw [if_pos c29] at H
                      have c29b0 : decide ((ji27) < (x3_4.length : Int)) = true := decide_eq_true c29
                      clear c29
                      replace H := Option.bind_eq_some_iff.mp H
                      obtain ⟨t416, A300, H⟩ := H
                      (try dsimp only at H)
                      have A30 := A_ A300
                      clear A300
                      by_cases c31 : t416 = true
                      ·subst c31
                       rw [if_pos rfl] at H
                       by_cases c32 : 0 ≤ x7_4
                       ·rw [if_pos c32] at H
                        have c32b0 : decide (0 ≤ x7_4) = true := decide_eq_true c32
                        clear c32
                        by_cases c33 : x7_4 < (x3_4.length : Int)
                        ·rw [if_pos c33] at H
                         have c33b0 : decide (x7_4 < (x3_4.length : Int)) = true := decide_eq_true c33
                         clear c33
                         obtain ⟨y418, hy418⟩ : ∃ y_ : List (S104), y_ = (x3_4.set (x7_4 : Int).toNat (⟨(⟨(rd_T104 x3_4 (ji27)).f0.f0, (rd_T104 x3_4 (ji27)).f0.f1⟩ : S74), (rd_T104 x3_4 (ji27)).f1, (rd_T104 x3_4 (ji27)).f2⟩ : S104)) := ⟨_, rfl⟩
                         replace H : (spec_OpenFaults.l2 k4 l0 y418 x4_1 ji27) = some r := by first | (rw [hy418]; with_reducible exact H) | (have H2_ := (Option.bind_some _ _).symm.trans H; rw [hy418]; with_reducible exact H2_) | (have H2_ := (Option.bind_some _ _).symm.trans H; with_reducible exact H2_) | with_reducible exact H | (rw [hy418]; exact H) | exact H
                         have Ny418 := A_ hy418
                         clear hy418
                         have H' := A_ H
                         clear H
                         try go_wp2
                         have n0_ := A_ (Kd.R_drew HO_3.out)
                         have n1_ := A_ (below_drew1 HB.out)
                         clear HO_3
                         clear HB
                         have HO_3 := n0_
                         have HB := n1_
                         clear n0_ n1_
                         have p414 : 0 ≤ (x4_1 : Int) := oD
                         have q414 : x4_1 < (l0.length : Int) := oD
                         obtain ⟨ad414, e414, hx414_0, hx414_1, hx414_2, hx414_3⟩ := at_T104 HR0.out x4_1 p414 q414
                         have hw414_3 := hx414_3
                         have hw414_2 := hx414_2
                         have hw414_1 := hx414_1
                         have hw414_0 := hx414_0
                         obtain rfl : ad407 = ad414 := (by injection e414)
                         replace hx414_0 := hW HB hx414_0
                         replace hx414_1 := hW HB hx414_1
                         replace hx414_2 := hW HB hx414_2
                         replace hx414_3 := hW HB hx414_3
                         replace p414 := eq_true p414
                         replace q414 := eq_true q414
                         obtain ⟨Ao36, co36, eo36⟩ := Kd.R_slice HO_3.out
                         (first | subst eo36 | (injection eo36 with f1_ f2_ f3_; have f4_ := f1_.symm; have f5_ := f3_.symm; clear f1_ f2_ f3_; subst f4_; subst f5_))
                         have p415 : 0 ≤ ((ji27) : Int) := oD
                         have q415 : (ji27) < (x3_4.length : Int) := oD
                         obtain ⟨ad415, e415, hx415_0, hx415_1, hx415_2, hx415_3⟩ := at_T104 (Kd.R_reads' HO_3.out).2.2 (ji27) p415 q415
                         cases e415
                         replace p415 := eq_true p415
                         replace q415 := eq_true q415
                         refine start_ (n := 14) (S := fun w' => w'.cell? (ad407.add ((x4_1).toNat * 4)) = some (.int .i64 ((rd_T104 l0 x4_1).f0.f0)) ∧ w'.cell? ⟨(ad407.add ((x4_1).toNat * 4)).block, (ad407.add ((x4_1).toNat * 4)).off + 1, none⟩ = some (.int .i64 ((rd_T104 l0 x4_1).f0.f1)) ∧ w'.cell? ⟨(ad407.add ((x4_1).toNat * 4)).block, (ad407.add ((x4_1).toNat * 4)).off + 2, none⟩ = some (.int .i64 ((rd_T104 l0 x4_1).f1)) ∧ w'.cell? ⟨(ad407.add ((x4_1).toNat * 4)).block, (ad407.add ((x4_1).toNat * 4)).off + 3, none⟩ = some (.int .i64 ((rd_T104 l0 x4_1).f2)) ∧ w'.cell? (ad415.add (((ji27)).toNat * 4)) = some (.int .i64 ((rd_T104 x3_4 (ji27)).f0.f0)) ∧ w'.cell? ⟨(ad415.add (((ji27)).toNat * 4)).block, (ad415.add (((ji27)).toNat * 4)).off + 1, none⟩ = some (.int .i64 ((rd_T104 x3_4 (ji27)).f0.f1)) ∧ w'.cell? ⟨(ad415.add (((ji27)).toNat * 4)).block, (ad415.add (((ji27)).toNat * 4)).off + 2, none⟩ = some (.int .i64 ((rd_T104 x3_4 (ji27)).f1)) ∧ w'.cell? ⟨(ad415.add (((ji27)).toNat * 4)).block, (ad415.add (((ji27)).toNat * 4)).off + 3, none⟩ = some (.int .i64 ((rd_T104 x3_4 (ji27)).f2))) (ds := []) #[false, false, false, false, false, false, false, false, false, false, false, false, false, false] (by kernel_rfl) rfl rfl ⟨(hW HB hw414_0), (hW HB hw414_1), (hW HB hw414_2), (hW HB hw414_3), hx415_0, hx415_1, hx415_2, hx415_3⟩ (fun hHeld => ?_); refine with_tabW spec_OpenFaults.tab13 spec_OpenFaults.bits13 (fun HT_ HW_ => ?_)
                         generalize wr.drew = w35 at HO_3 HB hx414_0 hx414_1 hx414_2 hx414_3 hx415_0 hx415_1 hx415_2 hx415_3 hHeld ⊢
                         refine pA 0 (some 58) HT_.out ?_
                         refine pA 1 (some 59) HT_.out ?_
                         refine pA 2 (some 60) HT_.out ?_
                         refine pA 3 (some 61) HT_.out ?_
                         refine pA 4 (some 62) HT_.out ?_
                         refine pA 5 (some 63) HT_.out ?_
                         refine pA 7 (some 65) HT_.out ?_
                         refine pA 8 (some 66) HT_.out ?_
                         refine pA 9 (some 67) HT_.out ?_
                         refine pA 10 (some 68) HT_.out ?_
                         refine pT 6 (some 64) HT_.out HW_.out hHeld ?_
                         refine pT 11 (some 69) HT_.out HW_.out hHeld ?_
                         refine one_ (i := 12) (N := some 70) #[true, true, true, true, true, true, true, true, true, true, true, true, true, false] rfl rfl (one_of HT_.out (by kernel_rfl)) (by decide) (fun K hK => ?_)
                         refine goes_ Tryz.func140 (by kernel_rfl) rfl #[.agg #[.int .i64 ((rd_T104 l0 x4_1).f0.f0), .int .i64 ((rd_T104 l0 x4_1).f0.f1), .int .i64 ((rd_T104 l0 x4_1).f1), .int .i64 ((rd_T104 l0 x4_1).f2)], .agg #[.int .i64 ((rd_T104 x3_4 (ji27)).f0.f0), .int .i64 ((rd_T104 x3_4 (ji27)).f0.f1), .int .i64 ((rd_T104 x3_4 (ji27)).f1), .int .i64 ((rd_T104 x3_4 (ji27)).f2)]] (by rfl) rfl rfl (by (try simp only [List.map_toArray, List.map_cons, List.map_nil]); first | done | (simp only [hji27]; rfl) | rfl | (simp only [List.length_drop, List.length_take]; rfl)) ?_
                         with_reducible refine (spec_l35Before.calls ((rd_T104 l0 x4_1).f0.f0) ((rd_T104 l0 x4_1).f0.f1) ((rd_T104 l0 x4_1).f1) ((rd_T104 l0 x4_1).f2) ((rd_T104 x3_4 (ji27)).f0.f0) ((rd_T104 x3_4 (ji27)).f0.f1) ((rd_T104 x3_4 (ji27)).f1) ((rd_T104 x3_4 (ji27)).f2) true _ A30.out).mono ?_
                         rintro e w37 ⟨rfl, hb⟩
                         have HS4_ := (hb.cell (World.block_lt_of_cell? _ _ (hHeld.2.2.2.2.1))).trans (hHeld.2.2.2.2.1)
                         have HS5_ := (hb.cell (World.block_lt_of_cell? _ _ (hHeld.2.2.2.2.2.1))).trans (hHeld.2.2.2.2.2.1)
                         have HS6_ := (hb.cell (World.block_lt_of_cell? _ _ (hHeld.2.2.2.2.2.2.1))).trans (hHeld.2.2.2.2.2.2.1)
                         have HS7_ := (hb.cell (World.block_lt_of_cell? _ _ (hHeld.2.2.2.2.2.2.2))).trans (hHeld.2.2.2.2.2.2.2)
                         refine ⟨_, rfl, ?_⟩
                         have n0_ := A_ (Kd.R_below (oR HO_3) hb)
                         have n1_ := A_ (below_step (oB HB) hb)
                         clear HO_3
                         clear HB
                         have HO_3 := n0_
                         have HB := n1_
                         clear n0_ n1_
                         (try clear hb)
                         (try clear hb2)
                         (try clear hk)
                         (try clear hi)
                         refine hK.out _ _ ⟨(hW HB hw414_0), (hW HB hw414_1), (hW HB hw414_2), (hW HB hw414_3), HS4_, HS5_, HS6_, HS7_⟩ (fun hHeld => ?_)
                         clear hK K
                         refine norm_ (a' := ?_) ?_ ?_
                         rotate_left
                         ·show Act.put _ (some 70) _ = _
                          simp only [Act.put, List.setIfInBounds_toArray, List.set_cons_zero, List.set_cons_succ, i64_w, i32_w]
                          rfl
                         refine pA 13 (some 71) HT_.out ?_
                         refine done_ (done_of HT_.out (by kernel_rfl)) ?_
                         have p417 : 0 ≤ ((ji27) : Int) := oD
                         have q417 : (ji27) < (x3_4.length : Int) := oD
                         obtain ⟨ad417, e417, hx417_0, hx417_1, hx417_2, hx417_3⟩ := at_T104 (Kd.R_reads' HO_3.out).2.2 (ji27) p417 q417
                         obtain rfl : ad415 = ad417 := (by injection e417)
                         replace p417 := eq_true p417
                         replace q417 := eq_true q417
                         have p34 : 0 ≤ (x7_4 : Int) := oD
                         have q34 : (x7_4 : Int) < ((x3_4.length : Int) : Int) := oD
                         obtain ⟨go34, co34, eo34, gb34, gl34, cl34, HG34⟩ := Kd.R_form HO_3.out (by omega)
                         (first | cases eo34 | (injection eo34 with ea_ en_ ec_; (first | subst ea_ | (injection ea_ with ea_; subst ea_)); subst ec_; clear en_))
                         have GB34 := A_ gb34
                         have GG34 := A_ HG34
                         clear gb34 gl34 HG34
                         (first | simp only [add_plain] at hx415_0 | skip)
                         (first | simp only [add_plain] at hx415_1 | skip)
                         (first | simp only [add_plain] at hx415_2 | skip)
                         (first | simp only [add_plain] at hx415_3 | skip)
                         (first | simp only [add_plain] at hx417_0 | skip)
                         (first | simp only [add_plain] at hx417_1 | skip)
                         (first | simp only [add_plain] at hx417_2 | skip)
                         (first | simp only [add_plain] at hx417_3 | skip)
                         obtain ⟨ce34, hcl34, hM34, hcc34, hfr34⟩ := Kd.R_elem HO_3.out z104 (x7_4 : Int) p34 q34
                         obtain rfl := k104_openM hM34
                         have hx34_0 : w37.cell? ⟨go34, (x7_4 : Int).toNat * 4, none⟩ = some (.int .i64 ((rd_T104 x3_4 x7_4).f0.f0)) := hcc34 0 _ rfl
                         have hx34_1 : w37.cell? ⟨go34, (x7_4 : Int).toNat * 4 + 1, none⟩ = some (.int .i64 ((rd_T104 x3_4 x7_4).f0.f1)) := hcc34 1 _ rfl
                         have hx34_2 : w37.cell? ⟨go34, (x7_4 : Int).toNat * 4 + 2, none⟩ = some (.int .i64 ((rd_T104 x3_4 x7_4).f1)) := hcc34 2 _ rfl
                         have hx34_3 : w37.cell? ⟨go34, (x7_4 : Int).toNat * 4 + 3, none⟩ = some (.int .i64 ((rd_T104 x3_4 x7_4).f2)) := hcc34 3 _ rfl
                         have hf34_0 : w37.frozen? ⟨go34, (x7_4 : Int).toNat * 4, none⟩ = false := hfr34 0
                         have hf34_1 : w37.frozen? ⟨go34, (x7_4 : Int).toNat * 4 + 1, none⟩ = false := hfr34 1
                         have hf34_2 : w37.frozen? ⟨go34, (x7_4 : Int).toNat * 4 + 2, none⟩ = false := hfr34 2
                         have hf34_3 : w37.frozen? ⟨go34, (x7_4 : Int).toNat * 4 + 3, none⟩ = false := hfr34 3
                         clear hcl34 hcc34 hfr34 hM34
                         replace p34 := eq_true p34
                         replace q34 := eq_true q34
                         have HX38 := A_ (show Kd.R k104 104 w37 w.heap.size (fun _ => True) (.slice (some ⟨go34, 0, none⟩) x3_4.length co36) x3_4 from (oR HO_3))
                         obtain ⟨ce38, hcl38, hM38, hcc38, hfr38⟩ := Kd.R_elem HX38.out z104 (x7_4 : Int) (oD) (by have h_ : (x7_4 : Int) < ((x3_4.length : Int) : Int) := oD; first | exact h_ | (have e_ := (Kd.R_reads' HO_3.out).1; omega) | simpa using h_)
                         obtain rfl := k104_openM hM38
                         have HP38 := Kd.R_seg HX38.out (x7_4 : Int) (oD) (by have h_ : (x7_4 : Int) < ((x3_4.length : Int) : Int) := oD; first | exact h_ | (have e_ := (Kd.R_reads' HO_3.out).1; omega) | simpa using h_) (seg := [.int .i64 ((rd_T104 x3_4 (ji27)).f0.f0), .int .i64 ((rd_T104 x3_4 (ji27)).f0.f1), .int .i64 ((rd_T104 x3_4 (ji27)).f1), .int .i64 ((rd_T104 x3_4 (ji27)).f2)]) (j := 0) hcl38 hcc38 (show 4 ≤ 4 from by decide) (x' := (⟨(⟨(rd_T104 x3_4 (ji27)).f0.f0, (rd_T104 x3_4 (ji27)).f0.f1⟩ : S74), (rd_T104 x3_4 (ji27)).f1, (rd_T104 x3_4 (ji27)).f2⟩ : S104)) (k104_mkM _ _ _ (⟨(⟨(rd_T104 x3_4 (ji27)).f0.f0, (rd_T104 x3_4 (ji27)).f0.f1⟩ : S74), (rd_T104 x3_4 (ji27)).f1, (rd_T104 x3_4 (ji27)).f2⟩ : S104) ) (fun _ hk => hk)
                         have hx38_0 := hcc38 0 _ rfl
                         (try simp only [show (k104).sz = 4 from rfl, Nat.mul_one, Nat.add_zero] at hx38_0)
                         have hf38_0 := hfr38 0
                         (try simp only [show (k104).sz = 4 from rfl, Nat.mul_one, Nat.add_zero] at hf38_0)
                         have hx38_1 := hcc38 1 _ rfl
                         (try simp only [show (k104).sz = 4 from rfl, Nat.mul_one, Nat.add_zero] at hx38_1)
                         have hf38_1 := hfr38 1
                         (try simp only [show (k104).sz = 4 from rfl, Nat.mul_one, Nat.add_zero] at hf38_1)
                         have hx38_2 := hcc38 2 _ rfl
                         (try simp only [show (k104).sz = 4 from rfl, Nat.mul_one, Nat.add_zero] at hx38_2)
                         have hf38_2 := hfr38 2
                         (try simp only [show (k104).sz = 4 from rfl, Nat.mul_one, Nat.add_zero] at hf38_2)
                         have hx38_3 := hcc38 3 _ rfl
                         (try simp only [show (k104).sz = 4 from rfl, Nat.mul_one, Nat.add_zero] at hx38_3)
                         have hf38_3 := hfr38 3
                         (try simp only [show (k104).sz = 4 from rfl, Nat.mul_one, Nat.add_zero] at hf38_3)
                         clear hcl38 hcc38 hfr38 hM38
                         try go_wp2_with (first | ((with_reducible refine gate_store (t := 104) (p := 79) rfl ?_); refine store_event (t := 104) (p := 79) (v := ?vo_w39) (w1 := ((((w37.setCell ⟨go34, (x7_4 : Int).toNat * 4, none⟩ (.int .i64 ((rd_T104 x3_4 (ji27)).f0.f0))).setCell ⟨go34, (x7_4 : Int).toNat * 4 + 1, none⟩ (.int .i64 ((rd_T104 x3_4 (ji27)).f0.f1))).setCell ⟨go34, (x7_4 : Int).toNat * 4 + 2, none⟩ (.int .i64 ((rd_T104 x3_4 (ji27)).f1))).setCell ⟨go34, (x7_4 : Int).toNat * 4 + 3, none⟩ (.int .i64 ((rd_T104 x3_4 (ji27)).f2)))) ?hg ?ho ?hn ?hr ?_; (case ho => rfl); (case hg => rfl); (case hn => rfl); (case hr => first | (go_simp; done) | (go_simp; rfl)); intro w39 hw; have hg : w37.grownBy w39 (some go34) := (by rw [hw]; exact HP38.2); have hp_ : Kd.R k104 104 w39 w.heap.size (fun _ => True) (.slice (some ⟨go34, 0, none⟩) x3_4.length co36) y418 := (by rw [hw, Ny418.out]; exact HP38.1); clear HP38; have n0_ := A_ (hp_); have n1_ := A_ ((by rw [hw]; exact below_set (below_set (below_set (below_set (HB.out) GB34.out) GB34.out) GB34.out) GB34.out : Below w.heap.size w w39)); clear HO_3; clear HB; have HO_3 := n0_; have HB := n1_; clear n0_ n1_; clear hg hw hp_))
                         go_roundg k4
                         case measure => have := HK1.out; have := HJ3.out; have := HK3.out; have := HK4.out; omega
                         case rel => exact ⟨(y418), (ji27), (by first | rfl | (simp; done) | (simp only [← hji27] <;> (first | rfl | simp)) | (simp [*]; done)), H', ⟨by have := HK1.out; have := HJ3.out; have := HK3.out; have := HK4.out; omega⟩, ⟨oR HO_3⟩, ⟨oB HB⟩⟩
                        ·rw [if_neg c33] at H
                         exact absurd H (by simp)
                       ·rw [if_neg c32] at H
                        exact absurd H (by simp)
                      ·replace c31 := Bool.eq_false_iff.mpr c31
                       subst c31
                       rw [if_neg (show ¬ (false = true) by decide)] at H
                       by_cases c40 : 0 ≤ x7_4
                       ·rw [if_pos c40] at H
                        have c40b0 : decide (0 ≤ x7_4) = true := decide_eq_true c40
                        clear c40
                        by_cases c41 : x7_4 < (x3_4.length : Int)
                        ·rw [if_pos c41] at H
                         have c41b0 : decide (x7_4 < (x3_4.length : Int)) = true := decide_eq_true c41
                         clear c41
                         obtain ⟨y420, hy420⟩ : ∃ y_ : List (S104), y_ = (x3_4.set (x7_4 : Int).toNat (⟨(⟨(rd_T104 l0 x4_1).f0.f0, (rd_T104 l0 x4_1).f0.f1⟩ : S74), (rd_T104 l0 x4_1).f1, (rd_T104 l0 x4_1).f2⟩ : S104)) := ⟨_, rfl⟩
                         replace H : (spec_OpenFaults.l0 k4 l0 y420 (wrap64 (x4_1 + 1))) = some r := by first | (rw [hy420]; with_reducible exact H) | (have H2_ := (Option.bind_some _ _).symm.trans H; rw [hy420]; with_reducible exact H2_) | (have H2_ := (Option.bind_some _ _).symm.trans H; with_reducible exact H2_) | with_reducible exact H | (rw [hy420]; exact H) | exact H
                         have Ny420 := A_ hy420
                         clear hy420
                         have H' := A_ H
                         clear H
                         try go_wp2
                         have n0_ := A_ (Kd.R_drew HO_3.out)
                         have n1_ := A_ (below_drew1 HB.out)
                         clear HO_3
                         clear HB
                         have HO_3 := n0_
                         have HB := n1_
                         clear n0_ n1_
                         have p414 : 0 ≤ (x4_1 : Int) := oD
                         have q414 : x4_1 < (l0.length : Int) := oD
                         obtain ⟨ad414, e414, hx414_0, hx414_1, hx414_2, hx414_3⟩ := at_T104 HR0.out x4_1 p414 q414
                         have hw414_3 := hx414_3
                         have hw414_2 := hx414_2
                         have hw414_1 := hx414_1
                         have hw414_0 := hx414_0
                         obtain rfl : ad407 = ad414 := (by injection e414)
                         replace hx414_0 := hW HB hx414_0
                         replace hx414_1 := hW HB hx414_1
                         replace hx414_2 := hW HB hx414_2
                         replace hx414_3 := hW HB hx414_3
                         replace p414 := eq_true p414
                         replace q414 := eq_true q414
                         obtain ⟨Ao44, co44, eo44⟩ := Kd.R_slice HO_3.out
                         (first | subst eo44 | (injection eo44 with f1_ f2_ f3_; have f4_ := f1_.symm; have f5_ := f3_.symm; clear f1_ f2_ f3_; subst f4_; subst f5_))
                         have p415 : 0 ≤ ((ji27) : Int) := oD
                         have q415 : (ji27) < (x3_4.length : Int) := oD
                         obtain ⟨ad415, e415, hx415_0, hx415_1, hx415_2, hx415_3⟩ := at_T104 (Kd.R_reads' HO_3.out).2.2 (ji27) p415 q415
                         cases e415
                         replace p415 := eq_true p415
                         replace q415 := eq_true q415
                         refine start_ (n := 14) (S := fun w' => w'.cell? (ad407.add ((x4_1).toNat * 4)) = some (.int .i64 ((rd_T104 l0 x4_1).f0.f0)) ∧ w'.cell? ⟨(ad407.add ((x4_1).toNat * 4)).block, (ad407.add ((x4_1).toNat * 4)).off + 1, none⟩ = some (.int .i64 ((rd_T104 l0 x4_1).f0.f1)) ∧ w'.cell? ⟨(ad407.add ((x4_1).toNat * 4)).block, (ad407.add ((x4_1).toNat * 4)).off + 2, none⟩ = some (.int .i64 ((rd_T104 l0 x4_1).f1)) ∧ w'.cell? ⟨(ad407.add ((x4_1).toNat * 4)).block, (ad407.add ((x4_1).toNat * 4)).off + 3, none⟩ = some (.int .i64 ((rd_T104 l0 x4_1).f2)) ∧ w'.cell? (ad415.add (((ji27)).toNat * 4)) = some (.int .i64 ((rd_T104 x3_4 (ji27)).f0.f0)) ∧ w'.cell? ⟨(ad415.add (((ji27)).toNat * 4)).block, (ad415.add (((ji27)).toNat * 4)).off + 1, none⟩ = some (.int .i64 ((rd_T104 x3_4 (ji27)).f0.f1)) ∧ w'.cell? ⟨(ad415.add (((ji27)).toNat * 4)).block, (ad415.add (((ji27)).toNat * 4)).off + 2, none⟩ = some (.int .i64 ((rd_T104 x3_4 (ji27)).f1)) ∧ w'.cell? ⟨(ad415.add (((ji27)).toNat * 4)).block, (ad415.add (((ji27)).toNat * 4)).off + 3, none⟩ = some (.int .i64 ((rd_T104 x3_4 (ji27)).f2))) (ds := []) #[false, false, false, false, false, false, false, false, false, false, false, false, false, false] (by kernel_rfl) rfl rfl ⟨(hW HB hw414_0), (hW HB hw414_1), (hW HB hw414_2), (hW HB hw414_3), hx415_0, hx415_1, hx415_2, hx415_3⟩ (fun hHeld => ?_); refine with_tabW spec_OpenFaults.tab13 spec_OpenFaults.bits13 (fun HT_ HW_ => ?_)
                         generalize wr.drew = w43 at HO_3 HB hx414_0 hx414_1 hx414_2 hx414_3 hx415_0 hx415_1 hx415_2 hx415_3 hHeld ⊢
                         refine pA 0 (some 58) HT_.out ?_
                         refine pA 1 (some 59) HT_.out ?_
                         refine pA 2 (some 60) HT_.out ?_
                         refine pA 3 (some 61) HT_.out ?_
                         refine pA 4 (some 62) HT_.out ?_
                         refine pA 5 (some 63) HT_.out ?_
                         refine pA 7 (some 65) HT_.out ?_
                         refine pA 8 (some 66) HT_.out ?_
                         refine pA 9 (some 67) HT_.out ?_
                         refine pA 10 (some 68) HT_.out ?_
                         refine pT 6 (some 64) HT_.out HW_.out hHeld ?_
                         refine pT 11 (some 69) HT_.out HW_.out hHeld ?_
                         refine one_ (i := 12) (N := some 70) #[true, true, true, true, true, true, true, true, true, true, true, true, true, false] rfl rfl (one_of HT_.out (by kernel_rfl)) (by decide) (fun K hK => ?_)
                         refine goes_ Tryz.func140 (by kernel_rfl) rfl #[.agg #[.int .i64 ((rd_T104 l0 x4_1).f0.f0), .int .i64 ((rd_T104 l0 x4_1).f0.f1), .int .i64 ((rd_T104 l0 x4_1).f1), .int .i64 ((rd_T104 l0 x4_1).f2)], .agg #[.int .i64 ((rd_T104 x3_4 (ji27)).f0.f0), .int .i64 ((rd_T104 x3_4 (ji27)).f0.f1), .int .i64 ((rd_T104 x3_4 (ji27)).f1), .int .i64 ((rd_T104 x3_4 (ji27)).f2)]] (by rfl) rfl rfl (by (try simp only [List.map_toArray, List.map_cons, List.map_nil]); first | done | (simp only [hji27]; rfl) | rfl | (simp only [List.length_drop, List.length_take]; rfl)) ?_
                         with_reducible refine (spec_l35Before.calls ((rd_T104 l0 x4_1).f0.f0) ((rd_T104 l0 x4_1).f0.f1) ((rd_T104 l0 x4_1).f1) ((rd_T104 l0 x4_1).f2) ((rd_T104 x3_4 (ji27)).f0.f0) ((rd_T104 x3_4 (ji27)).f0.f1) ((rd_T104 x3_4 (ji27)).f1) ((rd_T104 x3_4 (ji27)).f2) false _ A30.out).mono ?_
                         rintro e w45 ⟨rfl, hb⟩
                         have HS4_ := (hb.cell (World.block_lt_of_cell? _ _ (hHeld.2.2.2.2.1))).trans (hHeld.2.2.2.2.1)
                         have HS5_ := (hb.cell (World.block_lt_of_cell? _ _ (hHeld.2.2.2.2.2.1))).trans (hHeld.2.2.2.2.2.1)
                         have HS6_ := (hb.cell (World.block_lt_of_cell? _ _ (hHeld.2.2.2.2.2.2.1))).trans (hHeld.2.2.2.2.2.2.1)
                         have HS7_ := (hb.cell (World.block_lt_of_cell? _ _ (hHeld.2.2.2.2.2.2.2))).trans (hHeld.2.2.2.2.2.2.2)
                         refine ⟨_, rfl, ?_⟩
                         have n0_ := A_ (Kd.R_below (oR HO_3) hb)
                         have n1_ := A_ (below_step (oB HB) hb)
                         clear HO_3
                         clear HB
                         have HO_3 := n0_
                         have HB := n1_
                         clear n0_ n1_
                         (try clear hb)
                         (try clear hb2)
                         (try clear hk)
                         (try clear hi)
                         refine hK.out _ _ ⟨(hW HB hw414_0), (hW HB hw414_1), (hW HB hw414_2), (hW HB hw414_3), HS4_, HS5_, HS6_, HS7_⟩ (fun hHeld => ?_)
                         clear hK K
                         refine norm_ (a' := ?_) ?_ ?_
                         rotate_left
                         ·show Act.put _ (some 70) _ = _
                          simp only [Act.put, List.setIfInBounds_toArray, List.set_cons_zero, List.set_cons_succ, i64_w, i32_w]
                          rfl
                         refine pA 13 (some 71) HT_.out ?_
                         refine done_ (done_of HT_.out (by kernel_rfl)) ?_
                         have p419 : 0 ≤ (x4_1 : Int) := oD
                         have q419 : x4_1 < (l0.length : Int) := oD
                         obtain ⟨ad419, e419, hx419_0, hx419_1, hx419_2, hx419_3⟩ := at_T104 HR0.out x4_1 p419 q419
                         obtain rfl : ad407 = ad419 := (by injection e419)
                         replace hx419_0 := hW HB hx419_0
                         replace hx419_1 := hW HB hx419_1
                         replace hx419_2 := hW HB hx419_2
                         replace hx419_3 := hW HB hx419_3
                         replace p419 := eq_true p419
                         replace q419 := eq_true q419
                         have p42 : 0 ≤ (x7_4 : Int) := oD
                         have q42 : (x7_4 : Int) < ((x3_4.length : Int) : Int) := oD
                         obtain ⟨go42, co42, eo42, gb42, gl42, cl42, HG42⟩ := Kd.R_form HO_3.out (by omega)
                         (first | cases eo42 | (injection eo42 with ea_ en_ ec_; (first | subst ea_ | (injection ea_ with ea_; subst ea_)); subst ec_; clear en_))
                         have GB42 := A_ gb42
                         have GG42 := A_ HG42
                         clear gb42 gl42 HG42
                         (first | simp only [add_plain] at hx415_0 | skip)
                         (first | simp only [add_plain] at hx415_1 | skip)
                         (first | simp only [add_plain] at hx415_2 | skip)
                         (first | simp only [add_plain] at hx415_3 | skip)
                         obtain ⟨ce42, hcl42, hM42, hcc42, hfr42⟩ := Kd.R_elem HO_3.out z104 (x7_4 : Int) p42 q42
                         obtain rfl := k104_openM hM42
                         have hx42_0 : w45.cell? ⟨go42, (x7_4 : Int).toNat * 4, none⟩ = some (.int .i64 ((rd_T104 x3_4 x7_4).f0.f0)) := hcc42 0 _ rfl
                         have hx42_1 : w45.cell? ⟨go42, (x7_4 : Int).toNat * 4 + 1, none⟩ = some (.int .i64 ((rd_T104 x3_4 x7_4).f0.f1)) := hcc42 1 _ rfl
                         have hx42_2 : w45.cell? ⟨go42, (x7_4 : Int).toNat * 4 + 2, none⟩ = some (.int .i64 ((rd_T104 x3_4 x7_4).f1)) := hcc42 2 _ rfl
                         have hx42_3 : w45.cell? ⟨go42, (x7_4 : Int).toNat * 4 + 3, none⟩ = some (.int .i64 ((rd_T104 x3_4 x7_4).f2)) := hcc42 3 _ rfl
                         have hf42_0 : w45.frozen? ⟨go42, (x7_4 : Int).toNat * 4, none⟩ = false := hfr42 0
                         have hf42_1 : w45.frozen? ⟨go42, (x7_4 : Int).toNat * 4 + 1, none⟩ = false := hfr42 1
                         have hf42_2 : w45.frozen? ⟨go42, (x7_4 : Int).toNat * 4 + 2, none⟩ = false := hfr42 2
                         have hf42_3 : w45.frozen? ⟨go42, (x7_4 : Int).toNat * 4 + 3, none⟩ = false := hfr42 3
                         clear hcl42 hcc42 hfr42 hM42
                         replace p42 := eq_true p42
                         replace q42 := eq_true q42
                         have HX46 := A_ (show Kd.R k104 104 w45 w.heap.size (fun _ => True) (.slice (some ⟨go42, 0, none⟩) x3_4.length co44) x3_4 from (oR HO_3))
                         obtain ⟨ce46, hcl46, hM46, hcc46, hfr46⟩ := Kd.R_elem HX46.out z104 (x7_4 : Int) (oD) (by have h_ : (x7_4 : Int) < ((x3_4.length : Int) : Int) := oD; first | exact h_ | (have e_ := (Kd.R_reads' HO_3.out).1; omega) | simpa using h_)
                         obtain rfl := k104_openM hM46
                         have HP46 := Kd.R_seg HX46.out (x7_4 : Int) (oD) (by have h_ : (x7_4 : Int) < ((x3_4.length : Int) : Int) := oD; first | exact h_ | (have e_ := (Kd.R_reads' HO_3.out).1; omega) | simpa using h_) (seg := [.int .i64 ((rd_T104 l0 x4_1).f0.f0), .int .i64 ((rd_T104 l0 x4_1).f0.f1), .int .i64 ((rd_T104 l0 x4_1).f1), .int .i64 ((rd_T104 l0 x4_1).f2)]) (j := 0) hcl46 hcc46 (show 4 ≤ 4 from by decide) (x' := (⟨(⟨(rd_T104 l0 x4_1).f0.f0, (rd_T104 l0 x4_1).f0.f1⟩ : S74), (rd_T104 l0 x4_1).f1, (rd_T104 l0 x4_1).f2⟩ : S104)) (k104_mkM _ _ _ (⟨(⟨(rd_T104 l0 x4_1).f0.f0, (rd_T104 l0 x4_1).f0.f1⟩ : S74), (rd_T104 l0 x4_1).f1, (rd_T104 l0 x4_1).f2⟩ : S104) ) (fun _ hk => hk)
                         have hx46_0 := hcc46 0 _ rfl
                         (try simp only [show (k104).sz = 4 from rfl, Nat.mul_one, Nat.add_zero] at hx46_0)
                         have hf46_0 := hfr46 0
                         (try simp only [show (k104).sz = 4 from rfl, Nat.mul_one, Nat.add_zero] at hf46_0)
                         have hx46_1 := hcc46 1 _ rfl
                         (try simp only [show (k104).sz = 4 from rfl, Nat.mul_one, Nat.add_zero] at hx46_1)
                         have hf46_1 := hfr46 1
                         (try simp only [show (k104).sz = 4 from rfl, Nat.mul_one, Nat.add_zero] at hf46_1)
                         have hx46_2 := hcc46 2 _ rfl
                         (try simp only [show (k104).sz = 4 from rfl, Nat.mul_one, Nat.add_zero] at hx46_2)
                         have hf46_2 := hfr46 2
                         (try simp only [show (k104).sz = 4 from rfl, Nat.mul_one, Nat.add_zero] at hf46_2)
                         have hx46_3 := hcc46 3 _ rfl
                         (try simp only [show (k104).sz = 4 from rfl, Nat.mul_one, Nat.add_zero] at hx46_3)
                         have hf46_3 := hfr46 3
                         (try simp only [show (k104).sz = 4 from rfl, Nat.mul_one, Nat.add_zero] at hf46_3)
                         clear hcl46 hcc46 hfr46 hM46
                         try go_wp2_with (first | ((with_reducible refine gate_store (t := 104) (p := 88) rfl ?_); refine store_event (t := 104) (p := 88) (v := ?vo_w47) (w1 := ((((w45.setCell ⟨go42, (x7_4 : Int).toNat * 4, none⟩ (.int .i64 ((rd_T104 l0 x4_1).f0.f0))).setCell ⟨go42, (x7_4 : Int).toNat * 4 + 1, none⟩ (.int .i64 ((rd_T104 l0 x4_1).f0.f1))).setCell ⟨go42, (x7_4 : Int).toNat * 4 + 2, none⟩ (.int .i64 ((rd_T104 l0 x4_1).f1))).setCell ⟨go42, (x7_4 : Int).toNat * 4 + 3, none⟩ (.int .i64 ((rd_T104 l0 x4_1).f2)))) ?hg ?ho ?hn ?hr ?_; (case ho => rfl); (case hg => rfl); (case hn => rfl); (case hr => first | (go_simp; done) | (go_simp; rfl)); intro w47 hw; have hg : w45.grownBy w47 (some go42) := (by rw [hw]; exact HP46.2); have hp_ : Kd.R k104 104 w47 w.heap.size (fun _ => True) (.slice (some ⟨go42, 0, none⟩) x3_4.length co44) y420 := (by rw [hw, Ny420.out]; exact HP46.1); clear HP46; have n0_ := A_ (hp_); have n1_ := A_ ((by rw [hw]; exact below_set (below_set (below_set (below_set (HB.out) GB42.out) GB42.out) GB42.out) GB42.out : Below w.heap.size w w47)); clear HO_3; clear HB; have HO_3 := n0_; have HB := n1_; clear n0_ n1_; clear hg hw hp_))
                         go_roundg k4
                         case measure => have := HK1.out; have := HJ3.out; have := HK3.out; have := HK4.out; omega
                         case rel => exact ⟨(y420), (wrap64 (x4_1 + 1)), eS, H', ⟨by have := HK1.out; have := HJ3.out; have := HK3.out; have := HK4.out; omega⟩, ⟨oR HO_3⟩, ⟨oB HB⟩⟩
                        ·rw [if_neg c41] at H
                         exact absurd H (by simp)
                       ·rw [if_neg c40] at H
                        exact absurd H (by simp)
                     ·rw [if_neg c29] at H
                      exact absurd H (by simp)
                    ·rw [if_neg c28] at H
                     exact absurd H (by simp)
                   ·rw [if_neg c26] at H
                    exact absurd H (by simp)
                  ·rw [if_neg c25] at H
                   exact absurd H (by simp)
                 ·rw [if_neg c24] at H
                  have c24b0 : decide (0 < x7_4) = false := decide_eq_false c24
                  clear c24
                  by_cases c48 : 0 ≤ x4_1
                  ·rw [if_pos c48] at H
                   have c48b0 : decide (0 ≤ x4_1) = true := decide_eq_true c48
                   clear c48
                   by_cases c49 : x4_1 < (l0.length : Int)
                   ·rw [if_pos c49] at H
                    have c49b0 : decide (x4_1 < (l0.length : Int)) = true := decide_eq_true c49
                    clear c49
                    by_cases c50 : 0 ≤ x7_4
                    ·rw [if_pos c50] at H
                     have c50b0 : decide (0 ≤ x7_4) = true := decide_eq_true c50
                     clear c50
                     by_cases c51 : x7_4 < (x3_4.length : Int)
                     ·rw [if_pos c51] at H
                      have c51b0 : decide (x7_4 < (x3_4.length : Int)) = true := decide_eq_true c51
                      clear c51
                      obtain ⟨y422, hy422⟩ : ∃ y_ : List (S104), y_ = (x3_4.set (x7_4 : Int).toNat (⟨(⟨(rd_T104 l0 x4_1).f0.f0, (rd_T104 l0 x4_1).f0.f1⟩ : S74), (rd_T104 l0 x4_1).f1, (rd_T104 l0 x4_1).f2⟩ : S104)) := ⟨_, rfl⟩
                      replace H : (spec_OpenFaults.l0 k4 l0 y422 (wrap64 (x4_1 + 1))) = some r := by first | (rw [hy422]; with_reducible exact H) | (have H2_ := (Option.bind_some _ _).symm.trans H; rw [hy422]; with_reducible exact H2_) | (have H2_ := (Option.bind_some _ _).symm.trans H; with_reducible exact H2_) | with_reducible exact H | (rw [hy422]; exact H) | exact H
                      have Ny422 := A_ hy422
                      clear hy422
                      have H' := A_ H
                      clear H
                      try go_wp2
                      have n0_ := A_ (Kd.R_drew HO_3.out)
                      have n1_ := A_ (below_drew1 HB.out)
                      clear HO_3
                      clear HB
                      have HO_3 := n0_
                      have HB := n1_
                      clear n0_ n1_
                      refine start_ (n := 14) (S := fun w' => True) (ds := []) #[false, false, false, false, false, false, false, false, false, false, false, false, false, false] (by kernel_rfl) rfl rfl trivial (fun hHeld => ?_); refine with_tabW spec_OpenFaults.tab13 spec_OpenFaults.bits13 (fun HT_ HW_ => ?_)
                      generalize wr.drew = w53 at HO_3 HB hHeld ⊢
                      refine pA 0 (some 58) HT_.out ?_
                      refine pA 1 (some 59) HT_.out ?_
                      refine pA 2 (some 60) HT_.out ?_
                      refine pU 3 (some 61) HT_.out ?_
                      refine pU 4 (some 62) HT_.out ?_
                      refine pU 5 (some 63) HT_.out ?_
                      refine pU 6 (some 64) HT_.out ?_
                      refine pU 7 (some 65) HT_.out ?_
                      refine pU 8 (some 66) HT_.out ?_
                      refine pU 9 (some 67) HT_.out ?_
                      refine pU 10 (some 68) HT_.out ?_
                      refine pU 11 (some 69) HT_.out ?_
                      refine pU 12 (some 70) HT_.out ?_
                      refine pA 13 (some 71) HT_.out ?_
                      refine done_ (done_of HT_.out (by kernel_rfl)) ?_
                      have p421 : 0 ≤ (x4_1 : Int) := oD
                      have q421 : x4_1 < (l0.length : Int) := oD
                      obtain ⟨ad421, e421, hx421_0, hx421_1, hx421_2, hx421_3⟩ := at_T104 HR0.out x4_1 p421 q421
                      obtain rfl : ad407 = ad421 := (by injection e421)
                      replace hx421_0 := hW HB hx421_0
                      replace hx421_1 := hW HB hx421_1
                      replace hx421_2 := hW HB hx421_2
                      replace hx421_3 := hW HB hx421_3
                      replace p421 := eq_true p421
                      replace q421 := eq_true q421
                      have p52 : 0 ≤ (x7_4 : Int) := oD
                      have q52 : (x7_4 : Int) < ((x3_4.length : Int) : Int) := oD
                      obtain ⟨go52, co52, eo52, gb52, gl52, cl52, HG52⟩ := Kd.R_form HO_3.out (by omega)
                      (first | cases eo52 | (injection eo52 with ea_ en_ ec_; (first | subst ea_ | (injection ea_ with ea_; subst ea_)); subst ec_; clear en_))
                      have GB52 := A_ gb52
                      have GG52 := A_ HG52
                      clear gb52 gl52 HG52
                      obtain ⟨ce52, hcl52, hM52, hcc52, hfr52⟩ := Kd.R_elem HO_3.out z104 (x7_4 : Int) p52 q52
                      obtain rfl := k104_openM hM52
                      have hx52_0 : w53.cell? ⟨go52, (x7_4 : Int).toNat * 4, none⟩ = some (.int .i64 ((rd_T104 x3_4 x7_4).f0.f0)) := hcc52 0 _ rfl
                      have hx52_1 : w53.cell? ⟨go52, (x7_4 : Int).toNat * 4 + 1, none⟩ = some (.int .i64 ((rd_T104 x3_4 x7_4).f0.f1)) := hcc52 1 _ rfl
                      have hx52_2 : w53.cell? ⟨go52, (x7_4 : Int).toNat * 4 + 2, none⟩ = some (.int .i64 ((rd_T104 x3_4 x7_4).f1)) := hcc52 2 _ rfl
                      have hx52_3 : w53.cell? ⟨go52, (x7_4 : Int).toNat * 4 + 3, none⟩ = some (.int .i64 ((rd_T104 x3_4 x7_4).f2)) := hcc52 3 _ rfl
                      have hf52_0 : w53.frozen? ⟨go52, (x7_4 : Int).toNat * 4, none⟩ = false := hfr52 0
                      have hf52_1 : w53.frozen? ⟨go52, (x7_4 : Int).toNat * 4 + 1, none⟩ = false := hfr52 1
                      have hf52_2 : w53.frozen? ⟨go52, (x7_4 : Int).toNat * 4 + 2, none⟩ = false := hfr52 2
                      have hf52_3 : w53.frozen? ⟨go52, (x7_4 : Int).toNat * 4 + 3, none⟩ = false := hfr52 3
                      clear hcl52 hcc52 hfr52 hM52
                      replace p52 := eq_true p52
                      replace q52 := eq_true q52
                      have HX54 := A_ (show Kd.R k104 104 w53 w.heap.size (fun _ => True) (.slice (some ⟨go52, 0, none⟩) x3_4.length co52) x3_4 from (oR HO_3))
                      obtain ⟨ce54, hcl54, hM54, hcc54, hfr54⟩ := Kd.R_elem HX54.out z104 (x7_4 : Int) (oD) (by have h_ : (x7_4 : Int) < ((x3_4.length : Int) : Int) := oD; first | exact h_ | (have e_ := (Kd.R_reads' HO_3.out).1; omega) | simpa using h_)
                      obtain rfl := k104_openM hM54
                      have HP54 := Kd.R_seg HX54.out (x7_4 : Int) (oD) (by have h_ : (x7_4 : Int) < ((x3_4.length : Int) : Int) := oD; first | exact h_ | (have e_ := (Kd.R_reads' HO_3.out).1; omega) | simpa using h_) (seg := [.int .i64 ((rd_T104 l0 x4_1).f0.f0), .int .i64 ((rd_T104 l0 x4_1).f0.f1), .int .i64 ((rd_T104 l0 x4_1).f1), .int .i64 ((rd_T104 l0 x4_1).f2)]) (j := 0) hcl54 hcc54 (show 4 ≤ 4 from by decide) (x' := (⟨(⟨(rd_T104 l0 x4_1).f0.f0, (rd_T104 l0 x4_1).f0.f1⟩ : S74), (rd_T104 l0 x4_1).f1, (rd_T104 l0 x4_1).f2⟩ : S104)) (k104_mkM _ _ _ (⟨(⟨(rd_T104 l0 x4_1).f0.f0, (rd_T104 l0 x4_1).f0.f1⟩ : S74), (rd_T104 l0 x4_1).f1, (rd_T104 l0 x4_1).f2⟩ : S104) ) (fun _ hk => hk)
                      have hx54_0 := hcc54 0 _ rfl
                      (try simp only [show (k104).sz = 4 from rfl, Nat.mul_one, Nat.add_zero] at hx54_0)
                      have hf54_0 := hfr54 0
                      (try simp only [show (k104).sz = 4 from rfl, Nat.mul_one, Nat.add_zero] at hf54_0)
                      have hx54_1 := hcc54 1 _ rfl
                      (try simp only [show (k104).sz = 4 from rfl, Nat.mul_one, Nat.add_zero] at hx54_1)
                      have hf54_1 := hfr54 1
                      (try simp only [show (k104).sz = 4 from rfl, Nat.mul_one, Nat.add_zero] at hf54_1)
                      have hx54_2 := hcc54 2 _ rfl
                      (try simp only [show (k104).sz = 4 from rfl, Nat.mul_one, Nat.add_zero] at hx54_2)
                      have hf54_2 := hfr54 2
                      (try simp only [show (k104).sz = 4 from rfl, Nat.mul_one, Nat.add_zero] at hf54_2)
                      have hx54_3 := hcc54 3 _ rfl
                      (try simp only [show (k104).sz = 4 from rfl, Nat.mul_one, Nat.add_zero] at hx54_3)
                      have hf54_3 := hfr54 3
                      (try simp only [show (k104).sz = 4 from rfl, Nat.mul_one, Nat.add_zero] at hf54_3)
                      clear hcl54 hcc54 hfr54 hM54
                      try go_wp2_with (first | ((with_reducible refine gate_store (t := 104) (p := 88) rfl ?_); refine store_event (t := 104) (p := 88) (v := ?vo_w55) (w1 := ((((w53.setCell ⟨go52, (x7_4 : Int).toNat * 4, none⟩ (.int .i64 ((rd_T104 l0 x4_1).f0.f0))).setCell ⟨go52, (x7_4 : Int).toNat * 4 + 1, none⟩ (.int .i64 ((rd_T104 l0 x4_1).f0.f1))).setCell ⟨go52, (x7_4 : Int).toNat * 4 + 2, none⟩ (.int .i64 ((rd_T104 l0 x4_1).f1))).setCell ⟨go52, (x7_4 : Int).toNat * 4 + 3, none⟩ (.int .i64 ((rd_T104 l0 x4_1).f2)))) ?hg ?ho ?hn ?hr ?_; (case ho => rfl); (case hg => rfl); (case hn => rfl); (case hr => first | (go_simp; done) | (go_simp; rfl)); intro w55 hw; have hg : w53.grownBy w55 (some go52) := (by rw [hw]; exact HP54.2); have hp_ : Kd.R k104 104 w55 w.heap.size (fun _ => True) (.slice (some ⟨go52, 0, none⟩) x3_4.length co52) y422 := (by rw [hw, Ny422.out]; exact HP54.1); clear HP54; have n0_ := A_ (hp_); have n1_ := A_ ((by rw [hw]; exact below_set (below_set (below_set (below_set (HB.out) GB52.out) GB52.out) GB52.out) GB52.out : Below w.heap.size w w55)); clear HO_3; clear HB; have HO_3 := n0_; have HB := n1_; clear n0_ n1_; clear hg hw hp_))
                      go_roundg k4
                      case measure => have := HK1.out; have := HJ3.out; have := HK3.out; have := HK4.out; omega
                      case rel => exact ⟨(y422), (wrap64 (x4_1 + 1)), eS, H', ⟨by have := HK1.out; have := HJ3.out; have := HK3.out; have := HK4.out; omega⟩, ⟨oR HO_3⟩, ⟨oB HB⟩⟩
                     ·rw [if_neg c51] at H
                      exact absurd H (by simp)
                    ·rw [if_neg c50] at H
                     exact absurd H (by simp)
                   ·rw [if_neg c49] at H
                    exact absurd H (by simp)
                  ·rw [if_neg c48] at H
                   exact absurd H (by simp)
              ·rw [if_neg c21] at H
               exact absurd H (by simp)
             ·rw [if_neg c20] at H
              exact absurd H (by simp)
            ·rw [if_neg c19] at H
             exact absurd H (by simp)
           ·replace c18 := Bool.eq_false_iff.mpr c18
            subst c18
            rw [if_neg (show ¬ (false = true) by decide)] at H
            have H' := A_ H
            clear H
            go_wp2
            go_roundg k3
            case measure => have := HK1.out; have := HJ3.out; have := HK3.out; omega
            case rel => exact ⟨(x3_1), (wrap64 (x4_1 + 1)), eS, H', ⟨by have := HK1.out; have := HJ3.out; have := HK3.out; omega⟩, ⟨oR HO_3⟩, ⟨oB HB⟩⟩
       ·rw [if_neg c10] at H
        exact absurd H (by simp)
      ·rw [if_neg c9] at H
       exact absurd H (by simp)
     ·replace c8 := Bool.eq_false_iff.mpr c8
      subst c8
      rw [if_neg (show ¬ (false = true) by decide)] at H
      obtain rfl := Option.some.inj H
      go_wp2
      go_ret
      exact ⟨_, eR, oR HO_3, oB HB⟩
mutual
def spec_FaultOf.l0 : Nat → List (S104) → Int → Int → Int → Int → Option (Int)
 | 0, _, _, _, _, _ => none
 | k + 1, x0, x5, x6, x440000, x440001 => if x6 < (x0.length : Int) then ((spec_LogOk.f k x0).bind fun t440 => (spec_FaultOf.j1 k x0 x5 x6 t440 x440000 x440001)) else (spec_FaultOf.j1 k x0 x5 x6 false x440000 x440001)
def spec_FaultOf.j1 : Nat → List (S104) → Int → Int → Bool → Int → Int → Option (Int)
 | 0, _, _, _, _, _, _ => none
 | k + 1, x0, x5, x6, x14, x440000, x440001 => if x14 = true then (if 0 ≤ x6 then (if x6 < (x0.length : Int) then (if (((rd_T104 x0 x6).f0.f0) == x440000 && (((rd_T104 x0 x6).f0.f1) == x440001)) = true then (spec_FaultOf.l0 k x0 ((rd_T104 x0 x6).f1) (wrap64 (x6 + 1)) x440000 x440001) else (spec_FaultOf.l0 k x0 x5 (wrap64 (x6 + 1)) x440000 x440001)) else (none)) else (none)) else (some x5)
end
def spec_FaultOf.f (k : Nat) (l0 : List (S104)) (a1_0 : Int) (a1_1 : Int) : Option (Int) := spec_FaultOf.l0 k l0 0 0 a1_0 a1_1
theorem spec_FaultOf.calls (k : Nat) (A0 : Option Addr) (c0 : Nat) (l0 : List (S104)) (a1_0 : Int) (a1_1 : Int) (r : Int) (w : World) (hr0 : Kd.C k104 w A0 l0.length l0) (hc0 : l0.length ≤ c0) (h : spec_FaultOf.f k l0 a1_0 a1_1 = some r) :
  Calls Tryz.prog 102 #[.slice A0 l0.length c0, .agg #[.int .i64 a1_0, .int .i64 a1_1]] w fun e w' => e = .returned (.int .i64 r) ∧ Below w.heap.size w w' := by
 have hu74 := Tryz.underlying74
 have HR0 := A_ hr0
 have HC0 := A_ hc0
 clear hr0 hc0
 have HB := A_ (Below.refl w.heap.size w)
 have H : (spec_FaultOf.l0 k l0 0 0 a1_0 a1_1) = some r := h
 clear h
 have H' := A_ H
 clear H
 go_enter Tryz.func102, Tryz.ntmps102
 go_wp2_with (first | ((with_reducible refine gate_dst (N := 3) rfl ?_); refine bX (N := 3) (cs := #[.int .i64 a1_0, .int .i64 a1_1]) (t := 74) ?_; intro gb439 hg w3 hbox hb; have n0_ := A_ (below_step (oB HB) hb); have n1_ := A_ (hbox); have n2_ := A_ ((by rw [hg]; exact (below_size (oB HB)) : w.heap.size ≤ gb439)); have n3_ := A_ ((by rw [hg]; exact (below_size (oB HB)) : w.heap.size ≤ gb439)); clear HB; have HB := n0_; have BK439 := n1_; have GW439 := n2_; have GE439 := n3_; clear n0_ n1_ n2_ n3_; clear hb hbox hg))
 repeat (go_quiet (first | ((with_reducible refine gate_dst (N := 3) rfl ?_); refine bX (N := 3) (cs := #[.int .i64 a1_0, .int .i64 a1_1]) (t := 74) ?_; intro gb439 hg w3 hbox hb; have n0_ := A_ (below_step (oB HB) hb); have n1_ := A_ (hbox); have n2_ := A_ ((by rw [hg]; exact (below_size (oB HB)) : w.heap.size ≤ gb439)); have n3_ := A_ ((by rw [hg]; exact (below_size (oB HB)) : w.heap.size ≤ gb439)); clear HB; have HB := n0_; have BK439 := n1_; have GW439 := n2_; have GE439 := n3_; clear n0_ n1_ n2_ n3_; clear hb hbox hg)); try go_wp2_with (first | ((with_reducible refine gate_dst (N := 3) rfl ?_); refine bX (N := 3) (cs := #[.int .i64 a1_0, .int .i64 a1_1]) (t := 74) ?_; intro gb439 hg w3 hbox hb; have n0_ := A_ (below_step (oB HB) hb); have n1_ := A_ (hbox); have n2_ := A_ ((by rw [hg]; exact (below_size (oB HB)) : w.heap.size ≤ gb439)); have n3_ := A_ ((by rw [hg]; exact (below_size (oB HB)) : w.heap.size ≤ gb439)); clear HB; have HB := n0_; have BK439 := n1_; have GW439 := n2_; have GE439 := n3_; clear n0_ n1_ n2_ n3_; clear hb hbox hg)))
 go_loopg [5, 6] k (fun kq v5 v6 w' => ∃ (x5_1 : Int) (x6_1 : Int), v5 = .int .i64 x5_1 ∧ v6 = .int .i64 x6_1 ∧ Aside0 (spec_FaultOf.l0 kq l0 x5_1 x6_1 a1_0 a1_1 = some r) ∧ Aside0 (kq ≤ k) ∧ Aside0 (w'.heap[gb439]? = some (.cells #[.int .i64 a1_0, .int .i64 a1_1] 74 (0, 0))) ∧ Aside0 (Below w.heap.size w w'))
 case atStart => exact ⟨(0), (0), eS, eS, H', ⟨Nat.le_refl _⟩, ⟨oK BK439⟩, ⟨oB HB⟩⟩
 case round =>
  clear H'
  try clear c1
  try clear p2
  obtain ⟨x5_1, x6_1, rfl, rfl, HA, HK1, BK439, HB⟩ := hrel
  cases gk with
  | zero => exact absurd HA.out (by simp [spec_FaultOf.l0])
  | succ k1 =>
   have H := HA.out
   clear HA
   simp only [spec_FaultOf.l0] at H
   have HC4 := A_ H
   clear H
   go_upto_region 3 with (fail)
   repeat (go_quiet (fail); go_upto_region 3 with (fail))
   go_cut [14] (fun v14 wc => ∃ (kq : Nat) (x14_3 : Bool), v14 = .bool x14_3 ∧ Aside0 (spec_FaultOf.j1 kq l0 x5_1 x6_1 x14_3 a1_0 a1_1 = some r) ∧ Aside0 (kq ≤ k1) ∧ Aside0 (wc.heap[gb439]? = some (.cells #[.int .i64 a1_0, .int .i64 a1_1] 74 (0, 0))) ∧ Aside0 (Below w.heap.size w wc))
   case first =>
    have H := HC4.out
    clear HC4
    by_cases c5 : x6_1 < (l0.length : Int)
    ·rw [if_pos c5] at H
     have c5b0 : decide (x6_1 < (l0.length : Int)) = true := decide_eq_true c5
     clear c5
     (first | rw [c5b0] | (simp only [i64_w, i32_w]; rw [c5b0]) | skip)
     replace H := Option.bind_eq_some_iff.mp H
     obtain ⟨t440, A60, H⟩ := H
     (try dsimp only at H)
     have A6 := A_ A60
     clear A60
     have H' := A_ H
     clear H
     go_wp2_with (first | (go_at_call 87; (with_reducible refine (spec_LogOk.calls k1 _ _ l0 t440 _ ?side1 ?side2 A6.out).mono ?_); (case side1 => exact oc_ HR0.out); (case side2 => exact HC0.out); rintro e w7 ⟨rfl, hb⟩; have n0_ := A_ (bb BK439 hb); have n1_ := A_ (below_step (oB HB) hb); clear BK439; clear HB; have BK439 := n0_; have HB := n1_; clear n0_ n1_; (try clear hb); (try clear hb2); (try clear hk); (try clear hi)))
     repeat (go_quiet (first | (go_at_call 87; (with_reducible refine (spec_LogOk.calls k1 _ _ l0 t440 _ ?side1 ?side2 A6.out).mono ?_); (case side1 => exact oc_ HR0.out); (case side2 => exact HC0.out); rintro e w7 ⟨rfl, hb⟩; have n0_ := A_ (bb BK439 hb); have n1_ := A_ (below_step (oB HB) hb); clear BK439; clear HB; have BK439 := n0_; have HB := n1_; clear n0_ n1_; (try clear hb); (try clear hb2); (try clear hk); (try clear hi))); try go_wp2_with (first | (go_at_call 87; (with_reducible refine (spec_LogOk.calls k1 _ _ l0 t440 _ ?side1 ?side2 A6.out).mono ?_); (case side1 => exact oc_ HR0.out); (case side2 => exact HC0.out); rintro e w7 ⟨rfl, hb⟩; have n0_ := A_ (bb BK439 hb); have n1_ := A_ (below_step (oB HB) hb); clear BK439; clear HB; have BK439 := n0_; have HB := n1_; clear n0_ n1_; (try clear hb); (try clear hb2); (try clear hk); (try clear hi))))
     go_meet
     case rel => exact ⟨_, (t440), eS, H', ⟨by have := HK1.out; first | omega | exact Nat.le_refl _⟩, ⟨oK BK439⟩, ⟨oB HB⟩⟩
    ·rw [if_neg c5] at H
     have c5b0 : decide (x6_1 < (l0.length : Int)) = false := decide_eq_false c5
     clear c5
     (first | rw [c5b0] | (simp only [i64_w, i32_w]; rw [c5b0]) | skip)
     have H' := A_ H
     clear H
     go_wp2
     repeat (go_quiet (fail); try go_wp2)
     go_meet
     case rel => exact ⟨_, (false), eS, H', ⟨by have := HK1.out; first | omega | exact Nat.le_refl _⟩, ⟨oK BK439⟩, ⟨oB HB⟩⟩
   case rest =>
    clear HC4
    try clear c1
    try clear p2
    try clear c5
    try clear c5b0
    try clear p2
    obtain ⟨kq, x14_3, rfl, HA, HJ3, BK439, HB⟩ := hcut
    cases kq with
    | zero => exact absurd HA.out (by simp [spec_FaultOf.j1])
    | succ kj3 =>
     have H := HA.out
     clear HA
     simp only [spec_FaultOf.j1] at H
     by_cases c8 : x14_3 = true
     ·subst c8
      rw [if_pos rfl] at H
      by_cases c9 : 0 ≤ x6_1
      ·rw [if_pos c9] at H
       have c9b0 : decide (0 ≤ x6_1) = true := decide_eq_true c9
       clear c9
       by_cases c10 : x6_1 < (l0.length : Int)
       ·rw [if_pos c10] at H
        have c10b0 : decide (x6_1 < (l0.length : Int)) = true := decide_eq_true c10
        clear c10
        by_cases c11 : (((rd_T104 l0 x6_1).f0.f0) == a1_0 && (((rd_T104 l0 x6_1).f0.f1) == a1_1)) = true
        ·rw [if_pos c11] at H
         have c11b0 : (((rd_T104 l0 x6_1).f0.f0) == a1_0 && (((rd_T104 l0 x6_1).f0.f1) == a1_1)) = true := c11
         (try (have c11b1 : decide (((rd_T104 l0 x6_1).f0.f0) = a1_0 && (((rd_T104 l0 x6_1).f0.f1) == a1_1)) = true := by simpa using c11))
         (try (have c11b2 : (((rd_T104 l0 x6_1).f0.f0) == a1_0 && (((rd_T104 l0 x6_1).f0.f1) == a1_1)) = true := by simpa using c11))
         clear c11
         have H' := A_ H
         clear H
         have p441 : 0 ≤ (x6_1 : Int) := oD
         have q441 : x6_1 < (l0.length : Int) := oD
         obtain ⟨ad441, e441, hx441_0, hx441_1, hx441_2, hx441_3⟩ := at_T104 HR0.out x6_1 p441 q441
         cases e441
         replace hx441_0 := hW HB hx441_0
         replace hx441_1 := hW HB hx441_1
         replace hx441_2 := hW HB hx441_2
         replace hx441_3 := hW HB hx441_3
         replace p441 := eq_true p441
         replace q441 := eq_true q441
         have hcz12_0 := cz BK439 0
         have hcz12_1 := cz BK439 1
         have hfz12_0 := blk_frozen BK439.out 0
         have hfz12_1 := blk_frozen BK439.out 1
         have p442 : 0 ≤ (x6_1 : Int) := oD
         have q442 : x6_1 < (l0.length : Int) := oD
         obtain ⟨ad442, e442, hx442_0, hx442_1, hx442_2, hx442_3⟩ := at_T104 HR0.out x6_1 p442 q442
         obtain rfl : ad441 = ad442 := (by injection e442)
         replace hx442_0 := hW HB hx442_0
         replace hx442_1 := hW HB hx442_1
         replace hx442_2 := hW HB hx442_2
         replace hx442_3 := hW HB hx442_3
         replace p442 := eq_true p442
         replace q442 := eq_true q442
         go_wp2
         repeat (go_quiet (fail); try go_wp2)
         go_roundg kj3
         case measure => have := HK1.out; have := HJ3.out; omega
         case rel => exact ⟨((rd_T104 l0 x6_1).f1), (wrap64 (x6_1 + 1)), eS, eS, H', ⟨by have := HK1.out; have := HJ3.out; omega⟩, ⟨oK BK439⟩, ⟨oB HB⟩⟩
        ·rw [if_neg c11] at H
         have c11b0 : (((rd_T104 l0 x6_1).f0.f0) == a1_0 && (((rd_T104 l0 x6_1).f0.f1) == a1_1)) = false := by simpa using c11
         (try (have c11b1 : decide (((rd_T104 l0 x6_1).f0.f0) = a1_0 && (((rd_T104 l0 x6_1).f0.f1) == a1_1)) = false := by simpa using c11))
         (try (have c11b2 : (((rd_T104 l0 x6_1).f0.f0) == a1_0 && (((rd_T104 l0 x6_1).f0.f1) == a1_1)) = false := by simpa using c11))
         (try (have c11b3 : ¬ (((rd_T104 l0 x6_1).f0.f0) = a1_0 && (((rd_T104 l0 x6_1).f0.f1) == a1_1)) := by simpa using c11))
         clear c11
         have H' := A_ H
         clear H
         have p441 : 0 ≤ (x6_1 : Int) := oD
         have q441 : x6_1 < (l0.length : Int) := oD
         obtain ⟨ad441, e441, hx441_0, hx441_1, hx441_2, hx441_3⟩ := at_T104 HR0.out x6_1 p441 q441
         cases e441
         replace hx441_0 := hW HB hx441_0
         replace hx441_1 := hW HB hx441_1
         replace hx441_2 := hW HB hx441_2
         replace hx441_3 := hW HB hx441_3
         replace p441 := eq_true p441
         replace q441 := eq_true q441
         have hcz13_0 := cz BK439 0
         have hcz13_1 := cz BK439 1
         have hfz13_0 := blk_frozen BK439.out 0
         have hfz13_1 := blk_frozen BK439.out 1
         go_wp2
         repeat (go_quiet (fail); try go_wp2)
         go_roundg kj3
         case measure => have := HK1.out; have := HJ3.out; omega
         case rel => exact ⟨(x5_1), (wrap64 (x6_1 + 1)), eS, eS, H', ⟨by have := HK1.out; have := HJ3.out; omega⟩, ⟨oK BK439⟩, ⟨oB HB⟩⟩
       ·rw [if_neg c10] at H
        exact absurd H (by simp)
      ·rw [if_neg c9] at H
       exact absurd H (by simp)
     ·replace c8 := Bool.eq_false_iff.mpr c8
      subst c8
      rw [if_neg (show ¬ (false = true) by decide)] at H
      obtain rfl := Option.some.inj H
      go_wp2
      repeat (go_quiet (fail); try go_wp2)
      go_ret
      exact ⟨eR, oB HB⟩
end Go.Proofs.YtanhnhkcpbdfmaaGreat.P
namespace Go.Proofs.YtanhnhkcpbdfmaaGreat.P
set_option maxHeartbeats 8000000
set_option maxRecDepth 100000
set_option synthInstance.maxHeartbeats 400000
set_option synthInstance.maxSize 100000
open Go.RowKit Go.Proofs.YtanhnhkcpbdfmaaGreatW.PrintWords Go.Proofs.YtanhnhkcpbdfmaaGreatW.PrintLast Go.Proofs.YtanhnhkcpbdfmaaGreatW.PrintMore Go.Proofs.YtanhnhkcpbdfmaaGreat.V
attribute [local go_sem] cell_b frozen_b cellR_c cell_r frozen_r cell_r0 frozen_r0
attribute [local go_sem] max2_int min2_int max_two min_two max_three min_three max_four min_four
def spec_AddEntry.f (k : Nat) (l0 : List (S104)) (a1_0 : Int) (a1_1 : Int) (a1_2 : Int) (a1_3 : Int) : Option ((List (S104)) × Bool) := (spec_l34Copy.f l0).bind fun t314 => ((some (([(⟨(⟨a1_0, a1_1⟩ : S74), a1_2, a1_3⟩ : S104)] : List (S104)) : List (S104))).bind fun y317 => (if t314.length + y317.length < 4398046511104 then ((some (t314 ++ y317 : List (S104))).bind fun y320 => ((spec_LogOk.f k l0).bind fun t323 => (if t323 = true then ((spec_LogOk.f k y320).bind fun t324 => (if t324 = true then (some (y320, true)) else ((spec_l34Copy.f l0).bind fun t325 => (some (t325, false))))) else ((spec_l34Copy.f l0).bind fun t328 => (some (t328, false)))))) else (none)))
noncomputable def spec_AddEntry.T1 : Bool × List (List Nat × List Nat) := rtab .any (opsOf Tryz.f99 1)
def spec_AddEntry.B1 : List Nat := [0, 1, 0, 4, 15, 31]
theorem spec_AddEntry.tab1 : rtab .any (opsOf Tryz.f99 1) = spec_AddEntry.T1 := rfl
theorem spec_AddEntry.bits1 : waitsOk spec_AddEntry.T1.2 spec_AddEntry.B1 = true := by kernel_rfl
theorem spec_AddEntry.calls (k : Nat) (A0 : Option Addr) (c0 : Nat) (l0 : List (S104)) (a1_0 : Int) (a1_1 : Int) (a1_2 : Int) (a1_3 : Int) (r1 : List (S104)) (r2 : Bool) (w : World) (hr0 : Kd.C k104 w A0 l0.length l0) (hc0 : l0.length ≤ c0) (h : spec_AddEntry.f k l0 a1_0 a1_1 a1_2 a1_3 = some (r1, r2)) :
  Calls Tryz.prog 99 #[.slice A0 l0.length c0, .agg #[.int .i64 a1_0, .int .i64 a1_1, .int .i64 a1_2, .int .i64 a1_3]] w fun e w' => ∃ v0_ : Value, e = .returned (.tuple #[v0_, .bool r2]) ∧ Kd.R k104 104 w' w.heap.size (fun _ => True) v0_ r1 ∧ Below w.heap.size w w' := by
 replace hr0 := RdE.mk hr0
 replace hc0 := LeI.mk hc0
 unfold spec_AddEntry.f at h
 have hu104 := Tryz.underlying104
 (repeat' first | ((with_reducible replace h := ite_some h); rcases h with ⟨hc, h⟩ | ⟨hc, h⟩ <;> first | exact (none_some h).elim | exact absurd hc (by decide) | subst hc | (replace hc := hF_ hc; subst hc) | (replace hc := hG_ hc; subst hc) | (replace hc := hH_ hc; subst hc) | (have hd : (_ == _) = true := hc) | (have hd : (_ == _) = false := hF_ hc) | (have hd := hI_ hc; have he := hJ_ hc; clear hc) | (have hd := hK_ hc; have he := hL_ hc) | (have hd := decide_eq_false hc) | (have hd := decide_eq_true hc; (try (have hn := Int.natCast_pos.mp hc; have hm := decide_eq_true hn; replace hn := eq_true hn)); first | (obtain ⟨g_, e_, i_⟩ := form_ (by assumption) (by first | assumption | decide) hc; cases e_) | (obtain ⟨a_, e_, c_⟩ := atI_ (by assumption) (by first | assumption | decide) hc; cases e_)) | (have hd := decide_eq_true hc) | skip) | ((with_reducible replace h := bind_set_ h); obtain ⟨hl_, h⟩ := h; replace hl_ := A_ hl_; (try dsimp only at h)))
 all_goals go_enter Tryz.func99, Tryz.ntmps99
 all_goals go_wp2_with ((first
  | ((with_reducible refine gate_dst (N := 3) rfl ?_); refine bV #[.int .i64 a1_0, .int .i64 a1_1, .int .i64 a1_2, .int .i64 a1_3] 104 fun g w1 j1 j2 j3 => ?_)
  | (go_at_call 96; (try rw [hl_.out]); replace h := bI h; obtain ⟨t, A, h⟩ := h; (try dsimp only at h); refine (spec_l34Copy.calls _ _ _ _ _ Rd.out LeI.out A).mono ?_; rintro e w2 ⟨v0, rfl, ho0, hb⟩; obtain ⟨B0, b0, rfl, j0, q0⟩ := rowS ho0; have jb := Bel.mk hb; clear A ho0 hb)
  | (go_at_call 87; (try rw [hl_.out]); replace h := bI h; obtain ⟨t, A, h⟩ := h; (try dsimp only at h); refine (spec_LogOk.calls _ _ _ _ _ _ Rd.out LeI.out A).mono ?_; rintro e w2 ⟨rfl, hb⟩; have jb := Bel.mk hb; clear A hb)
  | (refine qR (id := 1) (ds := []) (l := #[false, false, false, false, false, false]) spec_AddEntry.tab1 spec_AddEntry.bits1 ?_; intro HT_ HW_ w3 jw u0 iu hHeld; refine qA 0 (some 7) HT_ ?_; refine qT 2 (some 9) HT_ HW_ hHeld ?_; replace h := bI h; obtain ⟨t, A, h⟩ := h; (try dsimp only at h); simp only [Option.bind_some] at h; (repeat' first | ((with_reducible replace h := ite_some h); rcases h with ⟨hc, h⟩ | ⟨hc, h⟩ <;> first | exact (none_some h).elim | exact absurd hc (by decide) | subst hc | (replace hc := hF_ hc; subst hc) | (replace hc := hG_ hc; subst hc) | (replace hc := hH_ hc; subst hc) | (have hd : (_ == _) = true := hc) | (have hd : (_ == _) = false := hF_ hc) | (have hd := hI_ hc; have he := hJ_ hc; clear hc) | (have hd := hK_ hc; have he := hL_ hc) | (have hd := decide_eq_false hc) | (have hd := decide_eq_true hc; (try (have hn := Int.natCast_pos.mp hc; have hm := decide_eq_true hn; replace hn := eq_true hn)); first | (obtain ⟨g_, e_, i_⟩ := form_ (by assumption) (by first | assumption | decide) hc; cases e_) | (obtain ⟨a_, e_, c_⟩ := atI_ (by assumption) (by first | assumption | decide) hc; cases e_)) | (have hd := decide_eq_true hc) | skip) | ((with_reducible replace h := bind_set_ h); obtain ⟨hl_, h⟩ := h; replace hl_ := A_ hl_; (try dsimp only at h))); refine qO2 1 3 (some 8) (some 10) HT_ (fun K hK => ?_) (fun K hK => ?_); (focus (refine goes_ Tryz.func96 (by kernel_rfl) rfl _ (by rfl) rfl rfl (by (try simp only [List.map_toArray, List.map_cons, List.map_nil]); rfl) ?_; refine (spec_l34Copy.calls _ _ _ _ _ Rd.out LeI.out A).mono ?_; rintro e u1 ⟨v0, rfl, ho0, hb⟩; obtain ⟨B0, b0, rfl, j0, q0⟩ := rowS ho0; have jb := Bel.mk hb; (try clear ho0 hb); refine ⟨_, rfl, hK.out _ _ From.out fun hHeld => ?_⟩; clear hK K; refine qN ?_; refine qI k104 3 104 10 ([(⟨(⟨a1_0, a1_1⟩ : S74), a1_2, a1_3⟩ : S104)] : List (S104)) [.int .i64 a1_0, .int .i64 a1_1, .int .i64 a1_2, .int .i64 a1_3] HT_ hHeld (Reps.c4 (show Kd.M k104 _ _ _ (⟨(⟨a1_0, a1_1⟩ : S74), a1_2, a1_3⟩ : S104) [.int .i64 a1_0, .int .i64 a1_1, .int .i64 a1_2, .int .i64 a1_3] from (k104_mkM _ _ _ (⟨(⟨a1_0, a1_1⟩ : S74), a1_2, a1_3⟩ : S104) )) (Reps.none _ _)) ?_; intro B9 b9 u9 j9 jb9 hHeld)); rotate_left; (focus (refine qI0 k104 104 10 ([(⟨(⟨a1_0, a1_1⟩ : S74), a1_2, a1_3⟩ : S104)] : List (S104)) [.int .i64 a1_0, .int .i64 a1_1, .int .i64 a1_2, .int .i64 a1_3] (Reps.c4 (show Kd.M k104 _ _ _ (⟨(⟨a1_0, a1_1⟩ : S74), a1_2, a1_3⟩ : S104) [.int .i64 a1_0, .int .i64 a1_1, .int .i64 a1_2, .int .i64 a1_3] from (k104_mkM _ _ _ (⟨(⟨a1_0, a1_1⟩ : S74), a1_2, a1_3⟩ : S104) )) (Reps.none _ _)) ?_; intro B9 b9 u9 j9 jb9; refine hK.out _ _ From.out fun hHeld => ?_; clear hK K; refine qN ?_; refine qC 1 8 Tryz.func96 HT_ fun K hK => ?_; refine (spec_l34Copy.calls _ _ _ _ _ Rd.out LeI.out A).mono ?_; rintro e u1 ⟨v0, rfl, ho0, hb⟩; obtain ⟨B0, b0, rfl, j0, q0⟩ := rowS ho0; have jb := Bel.mk hb; (try clear ho0 hb); refine ⟨_, rfl, hK _ _ From.out fun hHeld => ?_⟩; clear hK K; refine qN ?_)); all_goals (refine qP k104 t ([(⟨(⟨a1_0, a1_1⟩ : S74), a1_2, a1_3⟩ : S104)] : List (S104)) 4 11 (.tmp 8) (.tmp 10) 35 (.agg #[(.int .i64 0), (.int .i64 0), (.int .i64 0), (.int .i64 0)]) 32 HT_ hHeld Tryz.underlying35 info104 rfl (by decide) (by omega) (fun _ _ h => h) (by simp at hc ⊢; omega) ?_; intro B8 b8 u8 j8 jb8 hHeld; have q8 := LeI.mk (rowLe j8); generalize t ++ ([(⟨(⟨a1_0, a1_1⟩ : S74), a1_2, a1_3⟩ : S104)] : List (S104)) = y8 at h j8 q8 ⊢; refine qA 5 (some 6) HT_ ?_; refine qD HT_ ?_))); (repeat' first | ((with_reducible replace h := ite_some h); rcases h with ⟨hc, h⟩ | ⟨hc, h⟩ <;> first | exact (none_some h).elim | exact absurd hc (by decide) | subst hc | (replace hc := hF_ hc; subst hc) | (replace hc := hG_ hc; subst hc) | (replace hc := hH_ hc; subst hc) | (have hd : (_ == _) = true := hc) | (have hd : (_ == _) = false := hF_ hc) | (have hd := hI_ hc; have he := hJ_ hc; clear hc) | (have hd := hK_ hc; have he := hL_ hc) | (have hd := decide_eq_false hc) | (have hd := decide_eq_true hc; (try (have hn := Int.natCast_pos.mp hc; have hm := decide_eq_true hn; replace hn := eq_true hn)); first | (obtain ⟨g_, e_, i_⟩ := form_ (by assumption) (by first | assumption | decide) hc; cases e_) | (obtain ⟨a_, e_, c_⟩ := atI_ (by assumption) (by first | assumption | decide) hc; cases e_)) | (have hd := decide_eq_true hc) | skip) | ((with_reducible replace h := bind_set_ h); obtain ⟨hl_, h⟩ := h; replace hl_ := A_ hl_; (try dsimp only at h))); all_goals (try have hn : decide (0 < t.length) = true := decide_eq_true (by omega)); all_goals (try have hn : decide (0 < t.length) = false := decide_eq_false (by omega)))
 all_goals simp only [Option.some.injEq, Prod.mk.injEq] at h
 all_goals obtain ⟨rfl, rfl⟩ := h
 all_goals go_ret2
 all_goals exact ⟨_, rfl, (by first | exact rowFin | exact Kd.R_nil _ _ _ _ _ | exact atFin | exact irowFin' (by simp)), From.out⟩
end Go.Proofs.YtanhnhkcpbdfmaaGreat.P
namespace Go.Proofs.YtanhnhkcpbdfmaaGreat.P
set_option maxHeartbeats 8000000
set_option maxRecDepth 100000
open Go.RowKit Go.Proofs.YtanhnhkcpbdfmaaGreatW.PrintWords Go.Proofs.YtanhnhkcpbdfmaaGreatW.PrintLast Go.Proofs.YtanhnhkcpbdfmaaGreatW.PrintMore
attribute [local go_sem] max2_int min2_int max_two min_two max_three min_three max_four min_four
def spec_NextRepair.f (k : Nat) (l0 : List (S104)) : Option (Int × Int × Bool) := (spec_OpenFaults.f k l0).bind fun t424 => (if (t424.length : Int) = 0 then (some (0, 0, false)) else (if 0 < (t424.length : Int) then (some ((rd_T104 t424 0).f0.f0, (rd_T104 t424 0).f0.f1, true)) else (none)))
theorem spec_NextRepair.calls (k : Nat) (A0 : Option Addr) (c0 : Nat) (l0 : List (S104)) (r1 : Int) (r2 : Int) (r3 : Bool) (w : World) (hr0 : Kd.C k104 w A0 l0.length l0) (hc0 : l0.length ≤ c0) (h : spec_NextRepair.f k l0 = some (r1, r2, r3)) :
  Calls Tryz.prog 101 #[.slice A0 l0.length c0] w fun e w' => e = .returned (.tuple #[.agg #[.int .i64 r1, .int .i64 r2], .bool r3]) ∧ Below w.heap.size w w' := by
 have hu74 := Tryz.underlying74
 have HR0 := A_ hr0
 have HC0 := A_ hc0
 clear hr0 hc0
 have HB := A_ (Below.refl w.heap.size w)
 have H : ((spec_OpenFaults.f k l0).bind fun t424 => (if (t424.length : Int) = 0 then (some (0, 0, false)) else (if 0 < (t424.length : Int) then (some ((rd_T104 t424 0).f0.f0, (rd_T104 t424 0).f0.f1, true)) else (none)))) = some (r1, r2, r3) := h
 clear h
 replace H := Option.bind_eq_some_iff.mp H
 obtain ⟨t424, A20, H⟩ := H
 (try dsimp only at H)
 have A2 := A_ A20
 clear A20
 by_cases c3 : (t424.length : Int) = 0
 ·rw [if_pos c3] at H
  have c3b0 : ((t424.length : Int) == 0) = true := beq_iff_eq.mpr c3
  have c3b1 : ((t424.length : Int) != 0) = false := bne_eq_false_iff_eq.mpr c3
  clear c3
  simp only [Option.some.injEq, Prod.mk.injEq] at H
  obtain ⟨rfl, rfl, rfl⟩ := H
  go_enter Tryz.func101, Tryz.ntmps101
  go_wp2_with (first | ((with_reducible refine gate_dst (N := 2) rfl ?_); refine bX (N := 2) (cs := #[.int .i64 0, .int .i64 0]) (t := 74) ?_; intro gb423 hg w4 hbox hb; have n0_ := A_ (below_step (oB HB) hb); have n1_ := A_ (hbox); have n2_ := A_ ((by rw [hg]; exact (below_size (oB HB)) : w.heap.size ≤ gb423)); have n3_ := A_ ((by rw [hg]; exact (below_size (oB HB)) : w.heap.size ≤ gb423)); clear HB; have HB := n0_; have BK423 := n1_; have GW423 := n2_; have GE423 := n3_; clear n0_ n1_ n2_ n3_; clear hb hbox hg) | ((with_reducible refine gate_callee (f := 128) rfl ?_); refine gL (some 6) Tryz.func128 #[.slice A0 l0.length c0] ?_; (with_reducible refine (spec_OpenFaults.calls k _ _ l0 t424 _ ?side1 ?side2 A2.out).mono ?_); (case side1 => exact oc_ HR0.out); (case side2 => exact HC0.out); rintro e w5 ⟨v425, rfl, ho0, hb⟩; refine ⟨_, rfl, ?_⟩; have n0_ := A_ (Kd.R_lower ho0 (below_size (oB HB))); have n1_ := A_ (bb BK423 hb); have n2_ := A_ (below_step (oB HB) hb); clear BK423; clear HB; have HO426 := n0_; have BK423 := n1_; have HB := n2_; clear n0_ n1_ n2_; (try clear hb); (try clear hb2); (try clear hk); (try clear hi); (try clear ho0); obtain ⟨Ao6, co6, eo6⟩ := Kd.R_slice HO426.out; subst eo6; have hcz7_0 := cz BK423 0; have hcz7_1 := cz BK423 1; have hfz7_0 := blk_frozen BK423.out 0; have hfz7_1 := blk_frozen BK423.out 1))
  refine bodyPost_ret (results_ct rfl _ _ gb423 74 #[.int .i64 0, .int .i64 0] (0, 0) _ rfl (by (with_reducible repeat (first | refine blk_drewN ?_ _ | refine blk_drew ?_ | refine blk_alloc ?_ _)); refine blk_put (cs := #[.int .i64 0, .int .i64 0]) ?_ 1 _ rfl; (with_reducible repeat (first | refine blk_drewN ?_ _ | refine blk_drew ?_ | refine blk_alloc ?_ _)); refine blk_put (cs := #[.int .i64 0, .int .i64 0]) ?_ 0 _ rfl; (with_reducible repeat (first | refine blk_drewN ?_ _ | refine blk_drew ?_ | refine blk_alloc ?_ _)); exact BK423.out) Tryz.underlying74 rfl (by kernel_rfl)) rfl ?_
  exact ⟨eR, oB HB⟩
 ·rw [if_neg c3] at H
  have c3b0 : ((t424.length : Int) == 0) = false := beq_eq_false_iff_ne.mpr c3
  have c3b1 : ((t424.length : Int) != 0) = true := bne_iff_ne.mpr c3
  have c3b2 : ¬ (t424 = []) := fun h_ => c3 (by rw [h_]; rfl)
  by_cases c8 : 0 < (t424.length : Int)
  ·rw [if_pos c8] at H
   have c8b0 : decide (0 < (t424.length : Int)) = true := decide_eq_true c8
   have c8b1 : decide (0 < t424.length) = true := decide_eq_true (by omega)
   clear c8
   simp only [Option.some.injEq, Prod.mk.injEq] at H
   obtain ⟨rfl, rfl, rfl⟩ := H
   go_enter Tryz.func101, Tryz.ntmps101
   go_wp2_with (first | ((with_reducible refine gate_dst (N := 2) rfl ?_); refine bX (N := 2) (cs := #[.int .i64 0, .int .i64 0]) (t := 74) ?_; intro gb423 hg w9 hbox hb; have n0_ := A_ (below_step (oB HB) hb); have n1_ := A_ (hbox); have n2_ := A_ ((by rw [hg]; exact (below_size (oB HB)) : w.heap.size ≤ gb423)); have n3_ := A_ ((by rw [hg]; exact (below_size (oB HB)) : w.heap.size ≤ gb423)); clear HB; have HB := n0_; have BK423 := n1_; have GW423 := n2_; have GE423 := n3_; clear n0_ n1_ n2_ n3_; clear hb hbox hg) | ((with_reducible refine gate_callee (f := 128) rfl ?_); refine gL (some 6) Tryz.func128 #[.slice A0 l0.length c0] ?_; (with_reducible refine (spec_OpenFaults.calls k _ _ l0 t424 _ ?side1 ?side2 A2.out).mono ?_); (case side1 => exact oc_ HR0.out); (case side2 => exact HC0.out); rintro e w10 ⟨v425, rfl, ho0, hb⟩; refine ⟨_, rfl, ?_⟩; have n0_ := A_ (Kd.R_lower ho0 (below_size (oB HB))); have n1_ := A_ (bb BK423 hb); have n2_ := A_ (below_step (oB HB) hb); clear BK423; clear HB; have HO426 := n0_; have BK423 := n1_; have HB := n2_; clear n0_ n1_ n2_; (try clear hb); (try clear hb2); (try clear hk); (try clear hi); (try clear ho0); obtain ⟨Ao11, co11, eo11⟩ := Kd.R_slice HO426.out; subst eo11; have p427 : 0 ≤ (0 : Int) := (by omega); have q427 : 0 < (t424.length : Int) := oD; obtain ⟨ad427, e427, hx427_0, hx427_1, hx427_2, hx427_3⟩ := at_T104 (Kd.R_reads' HO426.out).2.2 0 p427 q427; cases e427; have qi427 : (0 < t424.length) = True := eq_true (by omega); (try rw [show ((0 : Int)).toNat = 0 from rfl] at hx427_0); (try rw [show 0 * 4 = 0 from rfl] at hx427_0); (try rw [Addr.add_zero'] at hx427_0); (try rw [show ((0 : Int)).toNat = 0 from rfl] at hx427_1); (try rw [show 0 * 4 = 0 from rfl] at hx427_1); (try rw [Addr.add_zero'] at hx427_1); (try rw [show ((0 : Int)).toNat = 0 from rfl] at hx427_2); (try rw [show 0 * 4 = 0 from rfl] at hx427_2); (try rw [Addr.add_zero'] at hx427_2); (try rw [show ((0 : Int)).toNat = 0 from rfl] at hx427_3); (try rw [show 0 * 4 = 0 from rfl] at hx427_3); (try rw [Addr.add_zero'] at hx427_3); replace p427 := eq_true p427; replace q427 := eq_true q427; have hcz12_0 := cz BK423 0; have hcz12_1 := cz BK423 1; have hfz12_0 := blk_frozen BK423.out 0; have hfz12_1 := blk_frozen BK423.out 1))
   refine bodyPost_ret (results_ct rfl _ _ gb423 74 #[.int .i64 ((rd_T104 t424 0).f0.f0), .int .i64 ((rd_T104 t424 0).f0.f1)] (0, 0) _ rfl (by (with_reducible repeat (first | refine blk_drewN ?_ _ | refine blk_drew ?_ | refine blk_alloc ?_ _)); refine blk_put (cs := #[.int .i64 ((rd_T104 t424 0).f0.f0), .int .i64 0]) ?_ 1 _ rfl; (with_reducible repeat (first | refine blk_drewN ?_ _ | refine blk_drew ?_ | refine blk_alloc ?_ _)); refine blk_put (cs := #[.int .i64 0, .int .i64 0]) ?_ 0 _ rfl; (with_reducible repeat (first | refine blk_drewN ?_ _ | refine blk_drew ?_ | refine blk_alloc ?_ _)); exact BK423.out) Tryz.underlying74 rfl (by kernel_rfl)) rfl ?_
   exact ⟨eR, oB HB⟩
  ·rw [if_neg c8] at H
   exact absurd H (by simp)
end Go.Proofs.YtanhnhkcpbdfmaaGreat.P
namespace Go.Proofs.YtanhnhkcpbdfmaaGreat.P
set_option maxHeartbeats 8000000
set_option maxRecDepth 100000
set_option synthInstance.maxHeartbeats 400000
set_option synthInstance.maxSize 100000
open Go.RowKit Go.Proofs.YtanhnhkcpbdfmaaGreatW.PrintWords Go.Proofs.YtanhnhkcpbdfmaaGreatW.PrintLast Go.Proofs.YtanhnhkcpbdfmaaGreatW.PrintMore Go.Proofs.YtanhnhkcpbdfmaaGreat.V
attribute [local go_sem] cell_b frozen_b
attribute [local go_sem] max2_int min2_int max_two min_two max_three min_three max_four min_four
def spec_RepairNext.f (k : Nat) (l0 : List (S104)) (a1 : Int) : Option ((List (S104)) × Bool) := (spec_NextRepair.f k l0).bind fun bt428 => (if bt428.2.2 = true then ((spec_AddEntry.f k l0 bt428.1 bt428.2.1 0 a1).bind fun bt432 => (some (bt432.1, bt432.2))) else ((spec_l34Copy.f l0).bind fun t436 => (some (t436, false))))
theorem spec_RepairNext.calls (k : Nat) (A0 : Option Addr) (c0 : Nat) (l0 : List (S104)) (a1 : Int) (r1 : List (S104)) (r2 : Bool) (w : World) (hr0 : Kd.C k104 w A0 l0.length l0) (hc0 : l0.length ≤ c0) (h : spec_RepairNext.f k l0 a1 = some (r1, r2)) :
  Calls Tryz.prog 51 #[.slice A0 l0.length c0, .int .i64 a1] w fun e w' => ∃ v0_ : Value, e = .returned (.tuple #[v0_, .bool r2]) ∧ Kd.R k104 104 w' w.heap.size (fun _ => True) v0_ r1 ∧ Below w.heap.size w w' := by
 replace hr0 := RdE.mk hr0
 replace hc0 := LeI.mk hc0
 unfold spec_RepairNext.f at h
 have hu74 := Tryz.underlying74
 (repeat' first | ((with_reducible replace h := ite_some h); rcases h with ⟨hc, h⟩ | ⟨hc, h⟩ <;> first | exact (none_some h).elim | exact absurd hc (by decide) | subst hc | (replace hc := hF_ hc; subst hc) | (have hd := hI_ hc; have he := hJ_ hc; clear hc) | (have hd := hK_ hc; have he := hL_ hc) | (have hd := decide_eq_false hc) | (have hd := decide_eq_true hc) | skip))
 all_goals go_enter Tryz.func51, Tryz.ntmps51
 all_goals go_wp2_with ((first
  | ((with_reducible refine gate_dst (N := 6) rfl ?_); refine bV #[.int .i64 0, .int .i64 0] 74 fun g w1 j1 j2 j3 => ?_)
  | (go_at_call 101; replace h := bI h; obtain ⟨⟨t1, t2, t3⟩, A, h⟩ := h; (try dsimp only at h); refine (spec_NextRepair.calls _ _ _ _ _ _ _ _ Rd.out LeI.out A).mono ?_; rintro e w2 ⟨rfl, hb⟩; have jb := Bel.mk hb; clear A hb)
  | (go_at_call 99; replace h := bI h; obtain ⟨⟨t1, t2⟩, A, h⟩ := h; (try dsimp only at h); refine (spec_AddEntry.calls _ _ _ _ _ _ _ _ _ _ _ Rd.out LeI.out A).mono ?_; rintro e w2 ⟨v0, rfl, ho0, hb⟩; obtain ⟨B0, b0, rfl, j0, q0⟩ := rowS ho0; have jb := Bel.mk hb; clear A ho0 hb)
  | (go_at_call 96; replace h := bI h; obtain ⟨t, A, h⟩ := h; (try dsimp only at h); refine (spec_l34Copy.calls _ _ _ _ _ Rd.out LeI.out A).mono ?_; rintro e w2 ⟨v0, rfl, ho0, hb⟩; obtain ⟨B0, b0, rfl, j0, q0⟩ := rowS ho0; have jb := Bel.mk hb; clear A ho0 hb)); (repeat' first | ((with_reducible replace h := ite_some h); rcases h with ⟨hc, h⟩ | ⟨hc, h⟩ <;> first | exact (none_some h).elim | exact absurd hc (by decide) | subst hc | (replace hc := hF_ hc; subst hc) | (have hd := hI_ hc; have he := hJ_ hc; clear hc) | (have hd := hK_ hc; have he := hL_ hc) | (have hd := decide_eq_false hc) | (have hd := decide_eq_true hc) | skip)); all_goals (try have hn : decide (0 < t.length) = true := decide_eq_true (by omega)); all_goals (try have hn : decide (0 < t.length) = false := decide_eq_false (by omega)))
 all_goals simp only [Option.some.injEq, Prod.mk.injEq] at h
 all_goals obtain ⟨rfl, rfl⟩ := h
 all_goals go_ret2
 all_goals exact ⟨_, rfl, (by first | exact rowFin | exact Kd.R_nil _ _ _ _ _), From.out⟩
end Go.Proofs.YtanhnhkcpbdfmaaGreat.P
