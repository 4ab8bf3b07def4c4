/- Several texts of this claim, joined into one file. -/
import Derived.Test.YthkbahbbdacgeaaDoorZj11
import Derived.Test.YthkbahbbdacgeaaDoorZW1
section
/- The law's acts: their commands, and whether they are too many. -/
namespace Stk
open Go
set_option maxRecDepth 100000
set_option linter.unusedSimpArgs false
set_option linter.unusedVariables false
set_option maxHeartbeats 4000000
structure Act where
  c : Cm
  f : Bool
  pick : Int
abbrev Cm.t (c : Cm) (f : Bool) : Tr := .agg [.int .u8 c.kind, i6 c.client, i6 c.seq, i6 c.node, i6 c.epoch, .bool c.yes, .arr 32 c.hash, .sl f 1 c.data]
abbrev Act.t (a : Act) : Tr := .agg [a.c.t a.f, i6 a.pick]
abbrev Act.l (a : Act) : AV := .agg [a.c.l, ti a.pick]
abbrev actsT (A : List Act) : List Tr := A.map Act.t
/-- What an argument's command is. -/
structure Cm.AK (c : Cm) : Prop where
  hk : 0 ≤ c.kind ∧ c.kind ≤ 255
  hn : I64 c.node
  he : I64 c.epoch
  hc : I64 c.client
  hs : I64 c.seq
  hh : Tr.fits (.arr 32 c.hash) hSh = true
  hb : AllB c.data
  hl : c.data.length ≤ 2 ^ 47
structure Act.AK (a : Act) : Prop where
  hc : a.c.AK
  hp : I64 a.pick
def Act.cmd (a : Act) : Cm :=
  if 1 ≤ a.pick ∧ a.pick ≤ 40 then (if a.c.kind = 1 then { a.c with data := smL a.pick } else { a.c with hash := shaL (smL a.pick) }) else a.c
/-- The command in memory of its own. -/
abbrev Cm.o (c : Cm) (b : Nat) : AV := .agg [.t (.int .u8 c.kind), ti c.client, ti c.seq, ti c.node, ti c.epoch, tb c.yes, .t (.arr 32 c.hash), .sl b 0 [] 0 c.data.length none]
theorem smL_b {p : Int} (h : 1 ≤ p ∧ p ≤ 40) : AllB (smL p) := by
  intro y hy
  simp only [smL, List.mem_cons, List.not_mem_nil, or_false] at hy
  rcases hy with rfl | rfl | rfl | rfl | rfl | rfl | rfl | rfl | rfl | rfl | rfl | rfl | rfl | rfl | rfl | rfl | rfl | rfl | rfl <;> exact ⟨_, rfl, by omega, by omega⟩
theorem k_cmd (a : Act) (ha : a.AK) : ACalls PP GG F.law23_cmd [a.l] [] fun r H' => r = a.cmd.o 0 ∧ H' = [.row 1 a.cmd.data] := by
  obtain ⟨⟨hk, hn, he, hcl, hs, hh, hb, hl⟩, hp⟩ := ha
  generalize hC : a.cmd = C
  unfold Act.cmd at hC
  obtain ⟨⟨kind, client, seq, node, epoch, yes, hash, data⟩, f, pick⟩ := a
  dsimp only [Act.l, Cm.l, Cm.o] at *
  refine K.law23_cmd.callsC rfl ?_
  (conv => arg 3; whnf); repeat ((first | (with_reducible apply sT); rfl | (with_reducible apply sF); rfl | (with_reducible apply sE); rfl); conv => arg 3; whnf)
  refine sat_asrt (by simp [roomy]; omega) ?_
  (conv => arg 3; whnf); repeat ((first | (with_reducible apply sT); rfl | (with_reducible apply sF); rfl | (with_reducible apply sE); rfl); conv => arg 3; whnf)
  refine sat_br (fun h1 => ?_) (fun h1 => ?_)
  rotate_left
  · have h1 : ¬ 1 ≤ pick := by simpa using h1
    rw [if_neg (by omega)] at hC
    (conv => arg 3; whnf); repeat ((first | (with_reducible apply sT); rfl | (with_reducible apply sF); rfl | (with_reducible apply sE); rfl); conv => arg 3; whnf)
    subst hC
    exact sat_ret ⟨rfl, rfl⟩
  have h1 : 1 ≤ pick := by simpa using h1
  (conv => arg 3; whnf); repeat ((first | (with_reducible apply sT); rfl | (with_reducible apply sF); rfl | (with_reducible apply sE); rfl); conv => arg 3; whnf)
  refine sat_br (fun h2 => ?_) (fun h2 => ?_)
  rotate_left
  · have h2 : ¬ pick ≤ 40 := by simpa using h2
    rw [if_neg (by omega)] at hC
    (conv => arg 3; whnf); repeat ((first | (with_reducible apply sT); rfl | (with_reducible apply sF); rfl | (with_reducible apply sE); rfl); conv => arg 3; whnf)
    subst hC
    exact sat_ret ⟨rfl, rfl⟩
  have h2 : pick ≤ 40 := by simpa using h2
  rw [if_pos ⟨h1, h2⟩] at hC
  (conv => arg 3; whnf); repeat ((first | (with_reducible apply sT); rfl | (with_reducible apply sF); rfl | (with_reducible apply sE); rfl); conv => arg 3; whnf)
  refine sat_rng (by rw [IntKind.wrap_i32]; omega) ?_
  (conv => arg 3; whnf); repeat ((first | (with_reducible apply sT); rfl | (with_reducible apply sF); rfl | (with_reducible apply sE); rfl); conv => arg 3; whnf)
  have ks : ACalls PP GG F.law23_small [.t (.int .i32 pick)] [] fun r H' => r = .sl 0 0 [] 0 19 none ∧ H' = [.row 1 (smL pick)] := k_small pick ⟨h1, h2⟩
  have hsl : (smL pick).length = 19 := rfl
  have hsb := smL_b ⟨h1, h2⟩
  generalize smL pick = S at *
  refine sat_call ks ?_
  rintro r H' ⟨rfl, rfl⟩
  (conv => arg 3; whnf); repeat ((first | (with_reducible apply sT); rfl | (with_reducible apply sF); rfl | (with_reducible apply sE); rfl); conv => arg 3; whnf)
  refine sat_br (fun h3 => ?_) (fun h3 => ?_)
  · have h3 : kind = 1 := by simpa using h3
    rw [if_pos h3] at hC
    (conv => arg 3; whnf); repeat ((first | (with_reducible apply sT); rfl | (with_reducible apply sF); rfl | (with_reducible apply sE); rfl); conv => arg 3; whnf)
    subst hC
    refine sat_ret ⟨?_, rfl⟩
    dsimp only
    rw [hsl]
  · have h3 : ¬ kind = 1 := by simpa using h3
    rw [if_neg h3] at hC
    (conv => arg 3; whnf); repeat ((first | (with_reducible apply sT); rfl | (with_reducible apply sF); rfl | (with_reducible apply sE); rfl); conv => arg 3; whnf)
    rw [show List.take 19 (List.drop 0 S) = S by rw [List.drop_zero, List.take_of_length_le (by omega)]]
    refine sat_call (r_sum S hsb (by omega)) ?_
    rintro r H' ⟨rfl, rfl⟩
    (conv => arg 3; whnf); repeat ((first | (with_reducible apply sT); rfl | (with_reducible apply sF); rfl | (with_reducible apply sE); rfl); conv => arg 3; whnf)
    subst hC
    exact sat_ret ⟨rfl, rfl⟩
def hvyS (A : List Act) : Int := A.foldl (fun n a => IntKind.wrap .i64 (n + IntKind.wrap .i64 ((a.c.data.length : Int).tdiv 100))) 0
theorem hvyS_next {A : List Act} {i : Nat} {a : Act} (h : A[i]? = some a) : hvyS (A.take (i + 1)) = IntKind.wrap .i64 (hvyS (A.take i) + IntKind.wrap .i64 ((a.c.data.length : Int).tdiv 100)) := by
  unfold hvyS
  rw [List.take_add_one, h, List.foldl_append]; rfl
def hvy (A : List Act) : Bool := decide ((A.length : Int) > 400) || decide (hvyS A > 3000)
theorem k_heavy (A : List Act) (hA : A.length ≤ 2 ^ 50) : ACalls PP GG F.law23_heavy [.bz 40 (actsT A)] [] fun r H' => r = tb (hvy A) ∧ H' = [] := by
  refine K.law23_heavy.callsC rfl ?_
  (conv => arg 3; whnf); repeat ((first | (with_reducible apply sT); rfl | (with_reducible apply sF); rfl | (with_reducible apply sE); rfl); conv => arg 3; whnf)
  have el : (actsT A).length = A.length := by simp
  rw [el]
  refine sat_loopOf mkX_ops (σ := { i : Nat // i ≤ A.length }) (fun x => [(0, .bz 40 (actsT A)), (3, ti (hvyS (A.take x.1))), (6, .bz 40 (actsT A)), (7, ti A.length), (8, ti x.1)]) (fun _ => []) (fun x => A.length - x.1)
    (fun ex fr' H' => ex = .exit 0 ∧ fr' = [(0, .bz 40 (actsT A)), (3, ti (hvyS A))] ∧ H' = []) ⟨0, Nat.zero_le _⟩ ?_ ?_
  · rintro ⟨i, hi⟩
    dsimp only
    (conv => arg 3; whnf); repeat ((first | (with_reducible apply sT); rfl | (with_reducible apply sF); rfl | (with_reducible apply sE); rfl); conv => arg 3; whnf)
    refine sat_br (fun h => ?_) (fun h => ?_)
    · have h : i < A.length := by have := of_decide_eq_true h; omega
      have hu : A[i]? = some A[i] := List.getElem?_eq_getElem h
      generalize A[i] = a at hu
      have hnx := hvyS_next hu
      obtain ⟨⟨kind, client, seq, node, epoch, yes, hash, data⟩, f, pick⟩ := a
      (conv => arg 3; whnf); repeat ((first | (with_reducible apply sT); rfl | (with_reducible apply sF); rfl | (with_reducible apply sE); rfl); conv => arg 3; whnf)
      refine sat_idx (Act.t ⟨⟨kind, client, seq, node, epoch, yes, hash, data⟩, f, pick⟩) (by omega) (by rw [Int.toNat_natCast, List.getElem?_map, hu]; rfl) ?_
      (conv => arg 3; whnf); repeat ((first | (with_reducible apply sT); rfl | (with_reducible apply sF); rfl | (with_reducible apply sE); rfl); conv => arg 3; whnf)
      refine sat_asrt (by decide) ?_
      (conv => arg 3; whnf); repeat ((first | (with_reducible apply sT); rfl | (with_reducible apply sF); rfl | (with_reducible apply sE); rfl); conv => arg 3; whnf)
      refine sat_rngw ?_
      (conv => arg 3; whnf); repeat ((first | (with_reducible apply sT); rfl | (with_reducible apply sF); rfl | (with_reducible apply sE); rfl); conv => arg 3; whnf)
      refine sat_rngw ?_
      (conv => arg 3; whnf); repeat ((first | (with_reducible apply sT); rfl | (with_reducible apply sF); rfl | (with_reducible apply sE); rfl); conv => arg 3; whnf)
      refine sat_rng (wrap64 (by omega) (by omega)) ?_
      (conv => arg 3; whnf); repeat ((first | (with_reducible apply sT); rfl | (with_reducible apply sF); rfl | (with_reducible apply sE); rfl); conv => arg 3; whnf)
      refine sat_ret ⟨⟨i + 1, by omega⟩, ?_, rfl, by show A.length - (i + 1) < A.length - i; omega⟩
      show _ = [(0, AV.bz 40 (actsT A)), (3, ti (hvyS (A.take (i + 1)))), _, _, _]
      rw [hnx]
      rfl
    · have h : i = A.length := by have := of_decide_eq_false h; omega
      subst h
      (conv => arg 3; whnf); repeat ((first | (with_reducible apply sT); rfl | (with_reducible apply sF); rfl | (with_reducible apply sE); rfl); conv => arg 3; whnf)
      refine sat_ret ⟨rfl, ?_, rfl⟩
      rw [List.take_length]; rfl
  · rintro ex fr' H' ⟨rfl, rfl, rfl⟩
    unfold hvy
    (conv => arg 3; whnf); repeat ((first | (with_reducible apply sT); rfl | (with_reducible apply sF); rfl | (with_reducible apply sE); rfl); conv => arg 3; whnf)
    rw [el]
    refine sat_br (fun h => ?_) (fun h => ?_)
    · (conv => arg 3; whnf); repeat ((first | (with_reducible apply sT); rfl | (with_reducible apply sF); rfl | (with_reducible apply sE); rfl); conv => arg 3; whnf)
      refine sat_ret ⟨?_, rfl⟩
      rw [h]; rfl
    · (conv => arg 3; whnf); repeat ((first | (with_reducible apply sT); rfl | (with_reducible apply sF); rfl | (with_reducible apply sE); rfl); conv => arg 3; whnf)
      refine sat_ret ⟨?_, rfl⟩
      rw [h]; rfl
def nodesOf (n : Int) : Int := 1 + (IntKind.wrap .u64 n).tmod 4
theorem nodesOf_in (n : Int) : 1 ≤ nodesOf n ∧ nodesOf n ≤ 4 := by
  unfold nodesOf
  have h : 0 ≤ IntKind.wrap .u64 n := by rw [IntKind.wrap_u64]; omega
  have h1 := Int.tmod_nonneg 4 h
  have h2 := Int.tmod_lt_of_pos (IntKind.wrap .u64 n) (show (0 : Int) < 4 by decide)
  omega
theorem k_nodesOf (n : Int) : ACalls PP GG F.law23_nodesOf [ti n] [] fun r H' => r = ti (nodesOf n) ∧ H' = [] := by
  have hno := nodesOf_in n
  unfold nodesOf at hno
  refine K.law23_nodesOf.callsC rfl ?_
  (conv => arg 3; whnf); repeat ((first | (with_reducible apply sT); rfl | (with_reducible apply sF); rfl | (with_reducible apply sE); rfl); conv => arg 3; whnf)
  refine sat_rngw ?_
  (conv => arg 3; whnf); repeat ((first | (with_reducible apply sT); rfl | (with_reducible apply sF); rfl | (with_reducible apply sE); rfl); conv => arg 3; whnf)
  refine sat_asrt (by decide) ?_
  (conv => arg 3; whnf); repeat ((first | (with_reducible apply sT); rfl | (with_reducible apply sF); rfl | (with_reducible apply sE); rfl); conv => arg 3; whnf)
  refine sat_rng (wrap64 (by omega) (by omega)) ?_
  (conv => arg 3; whnf); repeat ((first | (with_reducible apply sT); rfl | (with_reducible apply sF); rfl | (with_reducible apply sE); rfl); conv => arg 3; whnf)
  refine sat_rng (wrap64 (by omega) (by omega)) ?_
  (conv => arg 3; whnf); repeat ((first | (with_reducible apply sT); rfl | (with_reducible apply sF); rfl | (with_reducible apply sE); rfl); conv => arg 3; whnf)
  exact sat_ret ⟨rfl, rfl⟩
end Stk
end

section
/- The plain law of a ledger's epochs. -/
namespace Stk
open Go
set_option maxRecDepth 100000
set_option linter.unusedSimpArgs false
set_option linter.unusedVariables false
set_option maxHeartbeats 4000000
structure LInv (l : Lg) : Prop where
  ok : l.OK
  ph : ∀ (j : Nat) e, l.eps[j]? = some e → 1 ≤ e.phase ∧ e.phase ≤ 3 ∧ (e.phase = 1 → j + 1 = l.eps.length)
  im : ∀ e ∈ l.eps, (findI e.hash l.im).isSome = true
  hf : ∀ e ∈ l.eps, Tr.fits (.arr 32 e.hash) hSh = true
  hd : ∀ p ∈ l.im, p.2.length ≤ 2 ^ 40
/-- What epochs become. -/
structure Nxt (A B : List Ep) : Prop where
  len : A.length ≤ B.length ∧ B.length ≤ A.length + 1
  old : ∀ (j : Nat) a, A[j]? = some a → ∃ b, B[j]? = some b ∧ b.hash = a.hash ∧ (b.phase = a.phase ∨ a.phase = 1)
theorem Nxt.refl (A : List Ep) : Nxt A A := ⟨by omega, fun j a h => ⟨a, h, rfl, .inl rfl⟩⟩
/-- What a call makes of a ledger. -/
structure LStep (l l' : Lg) : Prop where
  inv : LInv l'
  nxt : Nxt l.eps l'.eps
  nodes : l'.nodes = l.nodes
theorem LStep.refl {l : Lg} (h : LInv l) : LStep l l := ⟨h, Nxt.refl _, rfl⟩
theorem LInv.same {l l' : Lg} (h : LInv l) (h1 : l'.nodes = l.nodes) (h2 : l'.im = l.im) (h3 : l'.eps = l.eps) : LInv l' := by
  obtain ⟨⟨a, b, c, d⟩, e, f, g, i⟩ := h
  exact ⟨⟨by rw [h1]; exact a, by rw [h3]; exact b, by rw [h2]; exact c, by rw [h3]; exact d⟩, by rw [h3]; exact e, by rw [h3, h2]; exact f, by rw [h3]; exact g, by rw [h2]; exact i⟩
theorem setq_same (l : Lg) (k : Int) (x : Rq) : (l.setq k x).nodes = l.nodes ∧ (l.setq k x).im = l.im ∧ (l.setq k x).eps = l.eps := by
  unfold Lg.setq
  split
  · exact ⟨rfl, rfl, rfl⟩
  · split
    · exact ⟨rfl, rfl, rfl⟩
    · split <;> exact ⟨rfl, rfl, rfl⟩
theorem LStep.setq {l l' : Lg} (h : LStep l l') (k : Int) (x : Rq) : LStep l (l'.setq k x) := by
  obtain ⟨h1, h2, h3⟩ := setq_same l' k x
  exact ⟨h.inv.same h1 h2 h3, by rw [h3]; exact h.nxt, by rw [h1]; exact h.nodes⟩
theorem LStep.once {l : Lg} (hl : LInv l) {f : Lg × Rp} (h : LStep l f.1) (c : Cm) : LStep l (l.once c f).1 := by
  unfold Lg.once
  split
  · exact LStep.refl hl
  · split
    · exact LStep.refl hl
    · split
      · exact h.setq _ _
      · exact LStep.refl hl
theorem putI_mem {h v : List Tr} : ∀ {im : List (List Tr × List Tr)} {p : List Tr × List Tr}, p ∈ putI h v im → p ∈ im ∨ p = (h, v)
  | [], p, hp => by simp [putI] at hp; exact .inr hp
  | (a, d) :: r, p, hp => by
    simp only [putI] at hp
    split at hp
    · rcases List.mem_cons.1 hp with rfl | hp
      · exact .inr rfl
      · exact .inl (by simp [hp])
    · rcases List.mem_cons.1 hp with rfl | hp
      · exact .inl (by simp)
      · rcases putI_mem hp with h | h
        · exact .inl (by simp [h])
        · exact .inr h
/-- Digests that are the same. -/
theorem eqbs_fits {s : Sh} (hs : s = .int .u8) : ∀ {a b : List Tr}, Tr.fitsa a s = true → Tr.fitsa b s = true → Tr.eqbs a b = true → a = b
  | [], [], _, _, _ => rfl
  | [], _ :: _, _, _, h => by simp [Tr.eqbs] at h
  | _ :: _, [], _, _, h => by simp [Tr.eqbs] at h
  | x :: a, y :: b, ha, hb, h => by
    simp only [Tr.fitsa, Tr.eqbs, Bool.and_eq_true] at ha hb h
    subst hs
    rw [eqbs_fits rfl ha.2 hb.2 h.2]
    have hx := ha.1; have hy := hb.1; have hxy := h.1
    cases x <;> simp [Tr.fits] at hx
    cases y <;> simp [Tr.fits] at hy
    rw [kindEq_eq hx, kindEq_eq hy]
    simp [Tr.eqb] at hxy
    rw [hxy]
theorem hash_eq {a b : List Tr} (ha : Tr.fits (.arr 32 a) hSh = true) (hb : Tr.fits (.arr 32 b) hSh = true) (h : Tr.eqbs a b = true) : a = b := by
  simp only [Tr.fits, Bool.and_eq_true] at ha hb
  exact eqbs_fits rfl ha.2 hb.2 h
theorem eqbs_self {s : Sh} (hs : s = .int .u8) : ∀ {a : List Tr}, Tr.fitsa a s = true → Tr.eqbs a a = true
  | [], _ => rfl
  | x :: a, h => by
    subst hs
    simp only [Tr.fitsa, Bool.and_eq_true] at h
    have hx := h.1
    cases x <;> simp [Tr.fits] at hx
    simp [Tr.eqbs, Tr.eqb, eqbs_self rfl h.2]
theorem findI_put {k h v : List Tr} : ∀ {im : List (List Tr × List Tr)}, (∀ p ∈ im, Tr.fits (.arr 32 p.1) hSh = true) → Tr.fits (.arr 32 h) hSh = true → (findI k im).isSome = true → (findI k (putI h v im)).isSome = true
  | [], _, _, e => by simp [findI] at e
  | (a, d) :: r, hk, hh, e => by
    simp only [putI]
    split
    · rename_i he
      have : h = a := hash_eq hh (hk (a, d) (by simp)) he
      subst this
      simp only [findI] at e ⊢
      split
      · rfl
      · rename_i hn; rw [if_neg hn] at e; exact e
    · simp only [findI] at e ⊢
      split
      · rfl
      · rename_i hn
        rw [if_neg hn] at e
        exact findI_put (fun p hp => hk p (by simp [hp])) hh e
theorem LStep.store {l : Lg} (hl : LInv l) {L : List Tr} (hb : AllB L) (hL : L.length ≤ 2 ^ 40) : LStep l (l.store L).1 := by
  unfold Lg.store
  split
  · exact LStep.refl hl
  · split
    · split <;> exact LStep.refl hl
    · split
      · exact LStep.refl hl
      · obtain ⟨⟨a, b, c, d⟩, e, f, g, i⟩ := hl
        refine ⟨⟨⟨a, b, fun p hp => ?_, d⟩, e, fun x hx => findI_put (fun p hp => (c p hp).1) (sha_fits L) (f x hx), g, fun p hp => ?_⟩, Nxt.refl _, rfl⟩
        · rcases putI_mem hp with h | rfl
          · exact c p h
          · exact ⟨sha_fits L, hb⟩
        · rcases putI_mem hp with h | rfl
          · exact i p h
          · exact hL
theorem lastE_zero {p : Int} {L : List Ep} : ∀ {n : Nat}, lastE p L n = 0 → ∀ (j : Nat) e, j < n → L[j]? = some e → e.phase ≠ p
  | 0, _, j, e, hj, _ => by omega
  | n + 1, h, j, e, hj, he => by
    simp only [lastE] at h
    cases hn : L[n]? with
    | none =>
      rw [hn] at h
      rcases Nat.lt_or_ge j n with h1 | h1
      · exact lastE_zero h j e h1 he
      · obtain rfl : j = n := by omega
        rw [hn] at he; cases he
    | some x =>
      rw [hn] at h
      simp only at h
      split at h
      · cases h
      · rename_i hx
        rcases Nat.lt_or_ge j n with h1 | h1
        · exact lastE_zero h j e h1 he
        · obtain rfl : j = n := by omega
          rw [hn] at he; obtain rfl := Option.some.inj he; exact hx
theorem LStep.propose {l : Lg} (hl : LInv l) {h : List Tr} (hh : Tr.fits (.arr 32 h) hSh = true) : LStep l (l.propose h).1 := by
  unfold Lg.propose
  split
  · exact LStep.refl hl
  · rename_i hsome
    split
    · exact LStep.refl hl
    · rename_i hpend
      split
      · exact LStep.refl hl
      · rename_i hlen
        obtain ⟨⟨a, b, c, d⟩, e, f, g, i⟩ := hl
        have hz : lastE 1 l.eps l.eps.length = 0 := by omega
        have mem : ∀ x ∈ l.eps ++ [(⟨h, 1, [false, false, false, false]⟩ : Ep)], x ∈ l.eps ∨ x = ⟨h, 1, [false, false, false, false]⟩ := fun x hx => by simpa using hx
        refine ⟨⟨⟨a, by simp; omega, c, fun x hx => ?_⟩, fun j x hj => ?_, fun x hx => ?_, fun x hx => ?_, i⟩, ⟨by simp, fun j x hj => ⟨x, by rw [List.getElem?_append_left (List.getElem?_eq_some_iff.1 hj).1]; exact hj, rfl, .inl rfl⟩⟩, rfl⟩
        · rcases mem x hx with hx | rfl
          · exact d x hx
          · rfl
        · dsimp only at hj ⊢
          rcases Nat.lt_or_ge j l.eps.length with hlt | hge
          · rw [List.getElem?_append_left hlt] at hj
            obtain ⟨h1, h2, h3⟩ := e j x hj
            refine ⟨h1, h2, fun hx => absurd hx (lastE_zero hz j x hlt hj)⟩
          · rw [List.getElem?_append_right hge] at hj
            have : j - l.eps.length = 0 := by
              rcases Nat.eq_zero_or_pos (j - l.eps.length) with h0 | h0
              · exact h0
              · rw [List.getElem?_singleton, if_neg (by omega)] at hj; cases hj
            rw [this] at hj
            obtain rfl := Option.some.inj hj
            simp; omega
        · rcases mem x hx with hx | rfl
          · exact f x hx
          · cases hf : findI h l.im with
            | none => rw [hf] at hsome; simp at hsome
            | some y => rfl
        · rcases mem x hx with hx | rfl
          · exact g x hx
          · exact hh
theorem LStep.ack {l : Lg} (hl : LInv l) (c : Cm) : LStep l (l.ack c).1 := by
  unfold Lg.ack
  split
  · exact LStep.refl hl
  · split
    · exact LStep.refl hl
    · split
      · rename_i u hu
        unfold Lg.ack1
        split
        · exact LStep.refl hl
        · rename_i hp1
          have hp1 : u.phase = 1 := by omega
          have key : ∀ x : Ep, x.hash = u.hash → 1 ≤ x.phase → x.phase ≤ 3 → x.yes.length = 4 → LStep l { l with eps := l.eps.set (c.epoch - 1).toNat x } := by
            intro x hxh hx1 hx3 hxy
            obtain ⟨⟨a, b, c', d⟩, e, f, g, i⟩ := hl
            have hum : u ∈ l.eps := List.mem_of_getElem? hu
            have mem : ∀ y ∈ l.eps.set (c.epoch - 1).toNat x, y ∈ l.eps ∨ y = x := fun y hy => List.mem_or_eq_of_mem_set hy
            refine ⟨⟨⟨a, by simpa using b, c', fun y hy => ?_⟩, fun j y hj => ?_, fun y hy => ?_, fun y hy => ?_, i⟩, ⟨by simp, fun j y hj => ?_⟩, rfl⟩
            · rcases mem y hy with hy | rfl
              · exact d y hy
              · exact hxy
            · dsimp only at hj ⊢
              rw [List.getElem?_set] at hj
              rw [List.length_set]
              split at hj
              · rename_i hjj
                subst hjj
                split at hj
                · obtain rfl := Option.some.inj hj
                  exact ⟨hx1, hx3, fun _ => (e _ u hu).2.2 hp1⟩
                · cases hj
              · exact e j y hj
            · rcases mem y hy with hy | rfl
              · exact f y hy
              · rw [hxh]; exact f u hum
            · rcases mem y hy with hy | rfl
              · exact g y hy
              · rw [hxh]; exact g u hum
            · dsimp only
              by_cases hjj : (c.epoch - 1).toNat = j
              · subst hjj
                rw [hu] at hj
                obtain rfl := Option.some.inj hj
                exact ⟨x, by rw [List.getElem?_set_self (List.getElem?_eq_some_iff.1 hu).1], hxh, .inr hp1⟩
              · exact ⟨y, by rw [List.getElem?_set_ne hjj]; exact hj, rfl, .inl rfl⟩
          have huy := hl.ok.hy u (List.mem_of_getElem? hu)
          split
          · exact key ⟨u.hash, 3, u.yes⟩ rfl (show (1 : Int) ≤ 3 by decide) (show (3 : Int) ≤ 3 by decide) huy
          · refine key _ rfl ?_ ?_ (by simpa using huy)
            · dsimp only; split <;> decide
            · dsimp only; split <;> decide
      · exact LStep.refl hl
theorem LStep.apply {l : Lg} (hl : LInv l) {c : Cm} (hc : c.OK) : LStep l (l.apply c).1 := by
  unfold Lg.apply
  split
  · exact LStep.refl hl
  · split
    · exact LStep.once hl (LStep.store hl hc.hb hc.hl) c
    · split
      · exact LStep.once hl (LStep.propose hl hc.hh) c
      · split
        · exact LStep.ack hl c
        · exact LStep.refl hl
theorem LInv.new {n : Int} (h : 1 ≤ n ∧ n ≤ 4) : LInv (Lg.new n) :=
  ⟨⟨⟨by show 0 < n; omega, h.2⟩, by simp [Lg.new], fun p hp => by simp [Lg.new] at hp, fun e he => by simp [Lg.new] at he⟩, fun j e he => by simp [Lg.new] at he, fun e he => by simp [Lg.new] at he, fun e he => by simp [Lg.new] at he, fun p hp => by simp [Lg.new] at hp⟩
/-- The pending epoch is the last one, or there is none. -/
theorem LInv.pending {l : Lg} (hl : LInv l) : lastE 1 l.eps l.eps.length = (match l.eps[l.eps.length - 1]? with
    | some e => if e.phase = 1 then l.eps.length else 0
    | none => 0) := by
  cases hn : l.eps.length with
  | zero =>
    have : l.eps = [] := List.length_eq_zero_iff.1 hn
    rw [this]; rfl
  | succ n =>
    have hu : l.eps[n]? = some l.eps[n] := List.getElem?_eq_getElem (by omega)
    rw [Nat.add_sub_cancel, hu]
    simp only [lastE, hu]
    split
    · rfl
    · have : ∀ m, m ≤ n → lastE 1 l.eps m = 0 := by
        intro m
        induction m with
        | zero => intro _; rfl
        | succ m ih =>
          intro hm
          have hv : l.eps[m]? = some l.eps[m] := List.getElem?_eq_getElem (by omega)
          simp only [lastE, hv]
          rw [if_neg (fun h1 => by have := (hl.ph m _ hv).2.2 h1; omega)]
          exact ih (by omega)
      exact this n (Nat.le_refl _)
end Stk
end
