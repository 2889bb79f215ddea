import Derived.Test.YthamljpomhjepaaAbS
set_option linter.unusedVariables false
set_option linter.unusedSimpArgs false
namespace Go.Ab
open Go.RowKit
section
variable {c : Ctx} {s : St} {Q : Exit → St → Prop} {code : Code}
/-- What a row of the call's own holds so far, as a list that is not written. -/
theorem abs_list (n r : Nat) (row : Row) (hn : s.sl n = .own r) (hr : s.rw[r]? = some row) (h : Abs c code Q { s with sl := put s.sl n (.list row.xs) }) : Abs c code Q s := by
  rintro a w ⟨g, hg⟩
  refine h a w ⟨g, hg.df, hg.sz, hg.below, hg.own0, hg.good, hg.from0, hg.S0, hg.good0, hg.lβ, hg.lρ, fun m => ?_, hg.bx, hg.fz, hg.rw, hg.ap⟩
  simp only [put]
  by_cases hm : m = n
  · subst hm
    rw [if_pos rfl]
    have := hg.sl m
    rw [hn] at this
    generalize hv : a.tmps.getD m undef = v at this
    cases this with
    | own _ _ _ h1 =>
      obtain ⟨v', f1, f2, _⟩ := (hg.rw r row hr).ex
      rw [h1] at f1; cases f1
      exact f2
  · rw [if_neg hm]; exact hg.sl m
/-- A nil slice in a box is taken for a row of the call's own. -/
theorem abs_adoptB (i q : Nat) (e : TypeId) (sz : Nat) (cs : List D) (hi : s.bx[i]? = some (.mu cs)) (hq : cs[q]? = some (.val (.slice none 0 0)))
    (h : Abs c code Q { s with bx := s.bx.set i (.mu (cs.set q (.own s.rw.length))), rw := s.rw ++ [⟨true, e, sz, []⟩] }) : Abs c code Q s := by
  rintro a w ⟨g, hg⟩
  refine h a w ⟨⟨g.S, g.β, g.ρ ++ [.slice none 0 0], g.M⟩, ?_⟩
  have hp := hg.pushNil e sz
  have hil : i < s.bx.length := (List.getElem?_eq_some_iff.1 hi).1
  have hql : q < cs.length := (List.getElem?_eq_some_iff.1 hq).1
  have hold : ∀ (j : Nat) (x : Bx), (s.bx.set i (.mu (cs.set q (.own s.rw.length))))[j]? = some x → (j = i ∧ x = .mu (cs.set q (.own s.rw.length))) ∨ (j ≠ i ∧ s.bx[j]? = some x) := fun j x hj => by
    by_cases hji : j = i
    · subst hji
      rw [List.getElem?_set_self hil] at hj
      exact .inl ⟨rfl, (Option.some.inj hj).symm⟩
    · rw [List.getElem?_set_ne (Ne.symm hji)] at hj
      exact .inr ⟨hji, hj⟩
  obtain ⟨κ, k1, k2⟩ := hp.ap
  refine ⟨hp.df, hp.sz, hp.below, hp.own0, hp.good, hp.from0, hp.S0, hp.good0, by simpa using hp.lβ, hp.lρ, hp.sl, fun j ds hj => ?_, fun j ds hj => ?_, hp.rw, κ, fun j x b hj hx hb => ?_, k2⟩
  · rcases hold j _ hj with ⟨rfl, e1⟩ | ⟨_, hj'⟩
    · cases e1
      obtain ⟨b, vs, t, f1, f2, f3, f4, f5, f6⟩ := (hp.bx j cs hi).ex
      refine ⟨b, vs, t, f1, f2, ⟨by rw [List.length_set]; exact f3.1, fun p d hd => ?_⟩, f4, f5, fun hh => by cases hh⟩
      by_cases hpq : p = q
      · subst hpq
        rw [List.getElem?_set_self hql] at hd
        cases hd
        obtain ⟨g1, g2⟩ := f3.2 p _ hq
        refine ⟨?_, g2⟩
        generalize vs.getD p undef = v at g1
        simp only [if_true] at g1 ⊢
        cases g1
        exact .own _ _ _ (by rw [← hg.lρ]; simp)
      · rw [List.getElem?_set_ne (Ne.symm hpq)] at hd
        exact f3.2 p d hd
    · exact hp.bx j ds hj'
  · rcases hold j _ hj with ⟨_, e1⟩ | ⟨_, hj'⟩
    · cases e1
    · exact hp.fz j ds hj'
  · rcases hold j _ hj with ⟨rfl, _⟩ | ⟨_, hj'⟩
    · exact k1 j _ b hi rfl hb
    · exact k1 j x b hj' hx hb
end
end Go.Ab
