/- What is there behind a crash. -/
import Derived.Test.YtmcdljgpalejaaaV2
namespace Stk
open Go
set_option maxRecDepth 100000
set_option linter.unusedSimpArgs false
set_option linter.unusedVariables false
set_option maxHeartbeats 4000000
theorem prefix_nil {S : List (List Tr)} (h : S <+: []) : S = [] := List.prefix_nil.1 h
theorem rec_take : ∀ (P : List (List Tr)), AllR P → ∀ p : Nat, ∃ Q, Q <+: P ∧ records ((formsL P).take p) = Q ∧ ∀ S, S <+: P → (formsL S).length ≤ p → S <+: Q
  | [], _, p => ⟨[], List.prefix_refl _, by rw [formsL_nil, List.take_nil]; rfl, fun S h _ => h⟩
  | x :: P, h, p => by
    obtain ⟨hx, hl⟩ := h x (by simp)
    have hfl := formB_len x
    have hn : ((x.length : Nat) : Int) = (x.length : Int) % 256 + 256 * ((x.length : Int) / 256 % 256) + 65536 * ((x.length : Int) / 65536 % 256) + 16777216 * ((x.length : Int) / 16777216) := by omega
    by_cases hp : p < (formB x).length
    · refine ⟨[], List.nil_prefix, ?_, fun S hS hle => ?_⟩
      · rw [formsL_cons, List.take_append_of_le_length (by omega)]
        by_cases h4 : p < 4
        · exact records_short (by rw [List.length_take]; omega)
        · obtain ⟨q, rfl⟩ : ∃ q, p = q + 1 + 1 + 1 + 1 := ⟨p - 4, by omega⟩
          show records (u8 _ :: u8 _ :: u8 _ :: u8 _ :: x.take q) = []
          refine records_stop hn ?_
          rw [List.length_take]
          omega
      · rcases S with _ | ⟨y, S⟩
        · exact List.prefix_refl _
        · obtain ⟨rfl, h2⟩ := List.cons_prefix_cons.1 hS
          rw [formsL_cons, List.length_append] at hle
          omega
    · obtain ⟨Q, q1, q2, q3⟩ := rec_take P (fun y hy => h y (by simp [hy])) (p - (formB x).length)
      refine ⟨x :: Q, List.cons_prefix_cons.2 ⟨rfl, q1⟩, ?_, fun S hS hle => ?_⟩
      · have e : (formsL (x :: P)).take p = formB x ++ (formsL P).take (p - (formB x).length) := by
          rw [formsL_cons, List.take_append, List.take_of_length_le (by omega)]
        rw [e]
        show records (u8 _ :: u8 _ :: u8 _ :: u8 _ :: (x ++ (formsL P).take (p - (formB x).length))) = _
        rw [records_cons hn ⟨hl, by rw [List.length_append]; omega⟩, List.take_left, List.drop_left, q2]
      · rcases S with _ | ⟨y, S⟩
        · exact List.nil_prefix
        · obtain ⟨rfl, h2⟩ := List.cons_prefix_cons.1 hS
          rw [formsL_cons, List.length_append] at hle
          exact List.cons_prefix_cons.2 ⟨rfl, q3 S h2 (by omega)⟩
theorem rec_all (P : List (List Tr)) (h : AllR P) : records (formsL P) = P := by
  obtain ⟨Q, q1, q2, q3⟩ := rec_take P h (formsL P).length
  rw [List.take_length] at q2
  rw [q2]
  exact (q1.eq_of_length_le (q3 P (List.prefix_refl _) (Nat.le_refl _)).length_le)
theorem KI.open {w : Lg} {S A O : List (List Tr)} {mb : Bool} (h : KI w S A O mb) (k : Int) :
    (w.d.crash k).1.OK ∧ AllB (w.d.crash k).1.xs ∧ (w.d.crash k).1.opn.2 = 0 ∧ (w.d.crash k).1.opn.1.down = false ∧
    ∃ now, records (w.d.crash k).1.cont = now ∧ KI ⟨(w.d.crash k).1.opn.1, now, (formsL now).length, false⟩ now now O false ∧ ((S <+: now ∧ now <+: A) ∨ (mb = true ∧ now = O)) := by
  have hok := crash_ok w.d h.ok k
  obtain ⟨c1, c2⟩ := crash_n w.d h.ok k
  have hb : AllB (w.d.crash k).1.xs := h.ab
  have hdw : (w.d.crash k).1.down = false := rfl
  have hfu : (w.d.crash k).1.fuse = 0 := rfl
  have hcn : (w.d.crash k).1.cont = w.d.cont.take (w.d.crash k).1.n := by
    show List.take _ w.d.xs = List.take _ (List.take _ w.d.xs)
    rw [List.take_take, Nat.min_eq_left c2]
  have hge : w.d.lasts ≤ (w.d.crash k).1.n := by
    have e : (w.d.crash k).1.n = (w.d.lasts + max 0 (min k ((w.d.n : Int) - w.d.lasts))).toNat := rfl
    have := h.ok.l0
    omega
  generalize hd' : (w.d.crash k).1 = d' at *
  have hcl := cont_len hok
  obtain ⟨ft, fr⟩ := forms_take _ d'.cont (Nat.le_refl _) (hb.take _)
  have hle : (formsL (records d'.cont)).length ≤ d'.cont.length := by rw [ft]; exact List.length_take_le' ..
  have hbig := hok.big
  have hlen := formsL_len (records d'.cont)
  have hopn : d'.opn.2 = 0 ∧ d'.opn.1.down = false ∧ d'.opn.1.OK ∧ AllB d'.opn.1.xs ∧ d'.opn.1.cont = formsL (records d'.cont) ∧ d'.opn.1.lasts = d'.opn.1.n ∧ d'.opn.1.n = (formsL (records d'.cont)).length := by
    unfold Dk.opn
    rw [if_neg (by simp [hdw])]
    by_cases h1 : (formsL (records d'.cont)).length < d'.cont.length
    · rw [if_pos h1, rep0 hdw hfu (by omega)]
      refine ⟨rfl, hdw, ⟨Nat.le_refl _, ?_, ?_, Int.le_refl _, ?_, ?_⟩, ?_, List.take_length .., rfl, rfl⟩
      · show (formsL (records d'.cont)).length ≤ 4194304; omega
      · show (0 : Int) ≤ ((formsL (records d'.cont)).length : Int); omega
      · show (0 : Int) ≤ d'.fuse; rw [hfu]; decide
      · show d'.fuse ≤ _; rw [hfu]; decide
      · exact allR_formsB fr
    · rw [if_neg h1]
      have e : (formsL (records d'.cont)).length = d'.cont.length := by omega
      rw [e, List.take_length] at ft
      exact ⟨rfl, hdw, hok, hb, ft.symm, c1.symm, by rw [e, hcl]⟩
  obtain ⟨o1, o2, o3, o4, o5, o6, o7⟩ := hopn
  refine ⟨hok, hb, o1, o2, _, rfl, ⟨o3, o4, fr, fr, h.rO, fr, ?_, ?_, by omega, by omega, h.ol, fun _ => ⟨rfl, by rw [← o7], o5, List.prefix_refl _, by rw [o6, o7]; exact Int.le_refl _⟩, fun h2 => ?_⟩, ?_⟩
  · show 4 * ((records d'.cont).length : Int) ≤ ((formsL (records d'.cont)).length : Int); omega
  · show ((formsL (records d'.cont)).length : Int) ≤ 4194304; omega
  · have : d'.opn.1.down = true := h2
    rw [o2] at this; cases this
  · have hP : ∀ P, w.d.cont = formsL P → AllR P → P <+: A → S <+: P → ((formsL S).length : Int) ≤ w.d.lasts → S <+: records d'.cont ∧ records d'.cont <+: A := by
      intro P p1 p2 p3 p4 p5
      obtain ⟨Q, q1, q2, q3⟩ := rec_take P p2 d'.n
      rw [hcn, p1, q2]
      exact ⟨q3 S p4 (by omega), q1.trans p3⟩
    cases hd : w.d.down with
    | false =>
      obtain ⟨u1, u2, u3, u4, u5⟩ := h.up hd
      exact .inl (hP A u3 h.rA (List.prefix_refl _) u4 u5)
    | true =>
      rcases h.dn hd with ⟨P, p1, p2, p3, p4⟩ | ⟨m1, m2, m3⟩
      · exact .inl (hP P p1 (fun y hy => h.rA y (p2.subset hy)) p2 p3 p4)
      · refine .inr ⟨m1, ?_⟩
        have e : d'.n = w.d.n := by omega
        have h9 := cont_len h.ok
        rw [hcn, e, ← h9, List.take_length, m2]
        exact rec_all O h.rO
end Stk
