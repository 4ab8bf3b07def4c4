/- Unlike images have unlike forms, and none begins another one: plain Lean. -/
import Derived.Test.YtcjmkbmeiefojaaP2
namespace Stk
open Go
set_option maxRecDepth 100000
set_option linter.unusedSimpArgs false
set_option linter.unusedVariables false
set_option maxHeartbeats 4000000
theorem eqbs_eq : ∀ {A B : List Tr}, (∀ y ∈ A, ∀ z ∈ B, y.eqb z = true → y = z) → A.length = B.length → Tr.eqbs A B = true → A = B
  | [], [], _, _, _ => rfl
  | [], _ :: _, _, h, _ => by simp at h
  | _ :: _, [], _, h, _ => by simp at h
  | x :: A, y :: B, h, hl, e => by
    have e : (x.eqb y && Tr.eqbs A B) = true := e
    rw [Bool.and_eq_true] at e
    rw [h x (by simp) y (by simp) e.1, eqbs_eq (fun z hz w hw => h z (by simp [hz]) w (by simp [hw])) (by simpa using hl) e.2]
theorem eqL_eq {A B : List Tr} (h : ∀ y ∈ A, ∀ z ∈ B, y.eqb z = true → y = z) (e : eqL A B = true) : A = B := by
  unfold eqL at e
  rw [Bool.and_eq_true] at e
  exact eqbs_eq h (of_decide_eq_true e.1) e.2
theorem im_eq_iff {x y : Im} (hx : x.OK) (hy : y.OK) : Im.eq x y = true ↔ x.A = y.A ∧ x.B = y.B := by
  constructor
  · intro h
    unfold Im.eq at h
    rw [Bool.and_eq_true] at h
    refine ⟨eqL_eq ?_ h.1, eqL_eq ?_ h.2⟩
    · intro u hu v hv e
      obtain ⟨a, b, c, d, rfl, _⟩ := hx.a u hu
      obtain ⟨a', b', c', d', rfl, _⟩ := hy.a v hv
      simp [Tr.eqb, Tr.eqbs] at e
      obtain ⟨rfl, rfl, rfl, rfl⟩ := e
      rfl
    · intro u hu v hv e
      obtain ⟨a, b, c, d, m, rfl, _⟩ := hx.b u hu
      obtain ⟨a', b', c', d', m', rfl, _⟩ := hy.b v hv
      simp [Tr.eqb, Tr.eqbs] at e
      obtain ⟨rfl, rfl, rfl, rfl, rfl⟩ := e
      rfl
  · rintro ⟨h1, h2⟩
    have := Im.eq_refl hx
    unfold Im.eq at this ⊢
    rw [← h1, ← h2]
    exact this
theorem enc_inj {x y : Im} (hx : EncOk x) (hy : EncOk y) : x.enc.1 = y.enc.1 ↔ x.A = y.A ∧ x.B = y.B := by
  constructor
  · intro h
    have h1 := enc_dec hx
    rw [h, enc_dec hy] at h1
    have h1 := congrArg Prod.fst h1
    exact ⟨(congrArg Im.A h1).symm, (congrArg Im.B h1).symm⟩
  · rintro ⟨h1, h2⟩
    rw [hx.e, hy.e, h1, h2]
theorem enc_alike {x y : Im} (hx : x.OK) (hy : y.OK) (kx : EncOk x) (ky : EncOk y) {q : Bool} (hq : q = true ↔ x.enc.1 = y.enc.1) : Im.eq x y = q := by
  have h1 := im_eq_iff hx hy
  rw [← enc_inj kx ky, ← hq] at h1
  cases hh : Im.eq x y <;> cases q <;> simp_all
theorem enc_begins {x y : Im} (kx : EncOk x) (ky : EncOk y) (hne : x.enc.1 ≠ y.enc.1) (hl : x.enc.1.length ≤ y.enc.1.length) : x.enc.1 ≠ y.enc.1.take x.enc.1.length := by
  intro e
  have := (enc_at kx).l
  have := kx.m4
  have := kx.p5
  have hd := enc_dec kx
  by_cases hh : x.enc.1.length = y.enc.1.length
  · apply hne
    rw [e, List.take_of_length_le (by omega)]
  · have := dec_like ky (L := x.enc.1) (fun i h1 h2 => by rw [e, List.getElem?_take, if_pos h1]) (by omega)
    rw [hd, if_pos (by omega)] at this
    have := congrArg Prod.snd this
    have : (0 : Int) = 4 := this
    omega
end Stk
