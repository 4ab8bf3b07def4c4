/- The law's acts: their commands, and whether they are too many. -/
import Derived.Test.YthkbahbbdacgeaaDoorZj11
import Derived.Test.YthkbahbbdacgeaaDoorZW1
namespace Stk
open Go
set_option maxRecDepth 100000
set_option linter.unusedSimpArgs false
set_option linter.unusedVariables false
set_option maxHeartbeats 4000000
structure Act where
  c : Cm
  f : Bool
  pick : Int
abbrev Cm.t (c : Cm) (f : Bool) : Tr := .agg [.int .u8 c.kind, i6 c.client, i6 c.seq, i6 c.node, i6 c.epoch, .bool c.yes, .arr 32 c.hash, .sl f 1 c.data]
abbrev Act.t (a : Act) : Tr := .agg [a.c.t a.f, i6 a.pick]
abbrev Act.l (a : Act) : AV := .agg [a.c.l, ti a.pick]
abbrev actsT (A : List Act) : List Tr := A.map Act.t
/-- What an argument's command is. -/
structure Cm.AK (c : Cm) : Prop where
  hk : 0 ≤ c.kind ∧ c.kind ≤ 255
  hn : I64 c.node
  he : I64 c.epoch
  hc : I64 c.client
  hs : I64 c.seq
  hh : Tr.fits (.arr 32 c.hash) hSh = true
  hb : AllB c.data
  hl : c.data.length ≤ 2 ^ 47
structure Act.AK (a : Act) : Prop where
  hc : a.c.AK
  hp : I64 a.pick
def Act.cmd (a : Act) : Cm :=
  if 1 ≤ a.pick ∧ a.pick ≤ 40 then (if a.c.kind = 1 then { a.c with data := smL a.pick } else { a.c with hash := shaL (smL a.pick) }) else a.c
/-- The command in memory of its own. -/
abbrev Cm.o (c : Cm) (b : Nat) : AV := .agg [.t (.int .u8 c.kind), ti c.client, ti c.seq, ti c.node, ti c.epoch, tb c.yes, .t (.arr 32 c.hash), .sl b 0 [] 0 c.data.length none]
theorem smL_b {p : Int} (h : 1 ≤ p ∧ p ≤ 40) : AllB (smL p) := by
  intro y hy
  simp only [smL, List.mem_cons, List.not_mem_nil, or_false] at hy
  rcases hy with rfl | rfl | rfl | rfl | rfl | rfl | rfl | rfl | rfl | rfl | rfl | rfl | rfl | rfl | rfl | rfl | rfl | rfl | rfl <;> exact ⟨_, rfl, by omega, by omega⟩
theorem k_cmd (a : Act) (ha : a.AK) : ACalls PP GG F.law23_cmd [a.l] [] fun r H' => r = a.cmd.o 0 ∧ H' = [.row 1 a.cmd.data] := by
  obtain ⟨⟨hk, hn, he, hcl, hs, hh, hb, hl⟩, hp⟩ := ha
  generalize hC : a.cmd = C
  unfold Act.cmd at hC
  obtain ⟨⟨kind, client, seq, node, epoch, yes, hash, data⟩, f, pick⟩ := a
  dsimp only [Act.l, Cm.l, Cm.o] at *
  refine K.law23_cmd.callsC rfl ?_
  (conv => arg 3; whnf); repeat ((first | (with_reducible apply sT); rfl | (with_reducible apply sF); rfl | (with_reducible apply sE); rfl); conv => arg 3; whnf)
  refine sat_asrt (by simp [roomy]; omega) ?_
  (conv => arg 3; whnf); repeat ((first | (with_reducible apply sT); rfl | (with_reducible apply sF); rfl | (with_reducible apply sE); rfl); conv => arg 3; whnf)
  refine sat_br (fun h1 => ?_) (fun h1 => ?_)
  rotate_left
  · have h1 : ¬ 1 ≤ pick := by simpa using h1
    rw [if_neg (by omega)] at hC
    (conv => arg 3; whnf); repeat ((first | (with_reducible apply sT); rfl | (with_reducible apply sF); rfl | (with_reducible apply sE); rfl); conv => arg 3; whnf)
    subst hC
    exact sat_ret ⟨rfl, rfl⟩
  have h1 : 1 ≤ pick := by simpa using h1
  (conv => arg 3; whnf); repeat ((first | (with_reducible apply sT); rfl | (with_reducible apply sF); rfl | (with_reducible apply sE); rfl); conv => arg 3; whnf)
  refine sat_br (fun h2 => ?_) (fun h2 => ?_)
  rotate_left
  · have h2 : ¬ pick ≤ 40 := by simpa using h2
    rw [if_neg (by omega)] at hC
    (conv => arg 3; whnf); repeat ((first | (with_reducible apply sT); rfl | (with_reducible apply sF); rfl | (with_reducible apply sE); rfl); conv => arg 3; whnf)
    subst hC
    exact sat_ret ⟨rfl, rfl⟩
  have h2 : pick ≤ 40 := by simpa using h2
  rw [if_pos ⟨h1, h2⟩] at hC
  (conv => arg 3; whnf); repeat ((first | (with_reducible apply sT); rfl | (with_reducible apply sF); rfl | (with_reducible apply sE); rfl); conv => arg 3; whnf)
  refine sat_rng (by rw [IntKind.wrap_i32]; omega) ?_
  (conv => arg 3; whnf); repeat ((first | (with_reducible apply sT); rfl | (with_reducible apply sF); rfl | (with_reducible apply sE); rfl); conv => arg 3; whnf)
  have ks : ACalls PP GG F.law23_small [.t (.int .i32 pick)] [] fun r H' => r = .sl 0 0 [] 0 19 none ∧ H' = [.row 1 (smL pick)] := k_small pick ⟨h1, h2⟩
  have hsl : (smL pick).length = 19 := rfl
  have hsb := smL_b ⟨h1, h2⟩
  generalize smL pick = S at *
  refine sat_call ks ?_
  rintro r H' ⟨rfl, rfl⟩
  (conv => arg 3; whnf); repeat ((first | (with_reducible apply sT); rfl | (with_reducible apply sF); rfl | (with_reducible apply sE); rfl); conv => arg 3; whnf)
  refine sat_br (fun h3 => ?_) (fun h3 => ?_)
  · have h3 : kind = 1 := by simpa using h3
    rw [if_pos h3] at hC
    (conv => arg 3; whnf); repeat ((first | (with_reducible apply sT); rfl | (with_reducible apply sF); rfl | (with_reducible apply sE); rfl); conv => arg 3; whnf)
    subst hC
    refine sat_ret ⟨?_, rfl⟩
    dsimp only
    rw [hsl]
  · have h3 : ¬ kind = 1 := by simpa using h3
    rw [if_neg h3] at hC
    (conv => arg 3; whnf); repeat ((first | (with_reducible apply sT); rfl | (with_reducible apply sF); rfl | (with_reducible apply sE); rfl); conv => arg 3; whnf)
    rw [show List.take 19 (List.drop 0 S) = S by rw [List.drop_zero, List.take_of_length_le (by omega)]]
    refine sat_call (r_sum S hsb (by omega)) ?_
    rintro r H' ⟨rfl, rfl⟩
    (conv => arg 3; whnf); repeat ((first | (with_reducible apply sT); rfl | (with_reducible apply sF); rfl | (with_reducible apply sE); rfl); conv => arg 3; whnf)
    subst hC
    exact sat_ret ⟨rfl, rfl⟩
def hvyS (A : List Act) : Int := A.foldl (fun n a => IntKind.wrap .i64 (n + IntKind.wrap .i64 ((a.c.data.length : Int).tdiv 100))) 0
theorem hvyS_next {A : List Act} {i : Nat} {a : Act} (h : A[i]? = some a) : hvyS (A.take (i + 1)) = IntKind.wrap .i64 (hvyS (A.take i) + IntKind.wrap .i64 ((a.c.data.length : Int).tdiv 100)) := by
  unfold hvyS
  rw [List.take_add_one, h, List.foldl_append]; rfl
def hvy (A : List Act) : Bool := decide ((A.length : Int) > 400) || decide (hvyS A > 3000)
theorem k_heavy (A : List Act) (hA : A.length ≤ 2 ^ 50) : ACalls PP GG F.law23_heavy [.bz 40 (actsT A)] [] fun r H' => r = tb (hvy A) ∧ H' = [] := by
  refine K.law23_heavy.callsC rfl ?_
  (conv => arg 3; whnf); repeat ((first | (with_reducible apply sT); rfl | (with_reducible apply sF); rfl | (with_reducible apply sE); rfl); conv => arg 3; whnf)
  have el : (actsT A).length = A.length := by simp
  rw [el]
  refine sat_loopOf mkX_ops (σ := { i : Nat // i ≤ A.length }) (fun x => [(0, .bz 40 (actsT A)), (3, ti (hvyS (A.take x.1))), (6, .bz 40 (actsT A)), (7, ti A.length), (8, ti x.1)]) (fun _ => []) (fun x => A.length - x.1)
    (fun ex fr' H' => ex = .exit 0 ∧ fr' = [(0, .bz 40 (actsT A)), (3, ti (hvyS A))] ∧ H' = []) ⟨0, Nat.zero_le _⟩ ?_ ?_
  · rintro ⟨i, hi⟩
    dsimp only
    (conv => arg 3; whnf); repeat ((first | (with_reducible apply sT); rfl | (with_reducible apply sF); rfl | (with_reducible apply sE); rfl); conv => arg 3; whnf)
    refine sat_br (fun h => ?_) (fun h => ?_)
    · have h : i < A.length := by have := of_decide_eq_true h; omega
      have hu : A[i]? = some A[i] := List.getElem?_eq_getElem h
      generalize A[i] = a at hu
      have hnx := hvyS_next hu
      obtain ⟨⟨kind, client, seq, node, epoch, yes, hash, data⟩, f, pick⟩ := a
      (conv => arg 3; whnf); repeat ((first | (with_reducible apply sT); rfl | (with_reducible apply sF); rfl | (with_reducible apply sE); rfl); conv => arg 3; whnf)
      refine sat_idx (Act.t ⟨⟨kind, client, seq, node, epoch, yes, hash, data⟩, f, pick⟩) (by omega) (by rw [Int.toNat_natCast, List.getElem?_map, hu]; rfl) ?_
      (conv => arg 3; whnf); repeat ((first | (with_reducible apply sT); rfl | (with_reducible apply sF); rfl | (with_reducible apply sE); rfl); conv => arg 3; whnf)
      refine sat_asrt (by decide) ?_
      (conv => arg 3; whnf); repeat ((first | (with_reducible apply sT); rfl | (with_reducible apply sF); rfl | (with_reducible apply sE); rfl); conv => arg 3; whnf)
      refine sat_rngw ?_
      (conv => arg 3; whnf); repeat ((first | (with_reducible apply sT); rfl | (with_reducible apply sF); rfl | (with_reducible apply sE); rfl); conv => arg 3; whnf)
      refine sat_rngw ?_
      (conv => arg 3; whnf); repeat ((first | (with_reducible apply sT); rfl | (with_reducible apply sF); rfl | (with_reducible apply sE); rfl); conv => arg 3; whnf)
      refine sat_rng (wrap64 (by omega) (by omega)) ?_
      (conv => arg 3; whnf); repeat ((first | (with_reducible apply sT); rfl | (with_reducible apply sF); rfl | (with_reducible apply sE); rfl); conv => arg 3; whnf)
      refine sat_ret ⟨⟨i + 1, by omega⟩, ?_, rfl, by show A.length - (i + 1) < A.length - i; omega⟩
      show _ = [(0, AV.bz 40 (actsT A)), (3, ti (hvyS (A.take (i + 1)))), _, _, _]
      rw [hnx]
      rfl
    · have h : i = A.length := by have := of_decide_eq_false h; omega
      subst h
      (conv => arg 3; whnf); repeat ((first | (with_reducible apply sT); rfl | (with_reducible apply sF); rfl | (with_reducible apply sE); rfl); conv => arg 3; whnf)
      refine sat_ret ⟨rfl, ?_, rfl⟩
      rw [List.take_length]; rfl
  · rintro ex fr' H' ⟨rfl, rfl, rfl⟩
    unfold hvy
    (conv => arg 3; whnf); repeat ((first | (with_reducible apply sT); rfl | (with_reducible apply sF); rfl | (with_reducible apply sE); rfl); conv => arg 3; whnf)
    rw [el]
    refine sat_br (fun h => ?_) (fun h => ?_)
    · (conv => arg 3; whnf); repeat ((first | (with_reducible apply sT); rfl | (with_reducible apply sF); rfl | (with_reducible apply sE); rfl); conv => arg 3; whnf)
      refine sat_ret ⟨?_, rfl⟩
      rw [h]; rfl
    · (conv => arg 3; whnf); repeat ((first | (with_reducible apply sT); rfl | (with_reducible apply sF); rfl | (with_reducible apply sE); rfl); conv => arg 3; whnf)
      refine sat_ret ⟨?_, rfl⟩
      rw [h]; rfl
def nodesOf (n : Int) : Int := 1 + (IntKind.wrap .u64 n).tmod 4
theorem nodesOf_in (n : Int) : 1 ≤ nodesOf n ∧ nodesOf n ≤ 4 := by
  unfold nodesOf
  have h : 0 ≤ IntKind.wrap .u64 n := by rw [IntKind.wrap_u64]; omega
  have h1 := Int.tmod_nonneg 4 h
  have h2 := Int.tmod_lt_of_pos (IntKind.wrap .u64 n) (show (0 : Int) < 4 by decide)
  omega
theorem k_nodesOf (n : Int) : ACalls PP GG F.law23_nodesOf [ti n] [] fun r H' => r = ti (nodesOf n) ∧ H' = [] := by
  have hno := nodesOf_in n
  unfold nodesOf at hno
  refine K.law23_nodesOf.callsC rfl ?_
  (conv => arg 3; whnf); repeat ((first | (with_reducible apply sT); rfl | (with_reducible apply sF); rfl | (with_reducible apply sE); rfl); conv => arg 3; whnf)
  refine sat_rngw ?_
  (conv => arg 3; whnf); repeat ((first | (with_reducible apply sT); rfl | (with_reducible apply sF); rfl | (with_reducible apply sE); rfl); conv => arg 3; whnf)
  refine sat_asrt (by decide) ?_
  (conv => arg 3; whnf); repeat ((first | (with_reducible apply sT); rfl | (with_reducible apply sF); rfl | (with_reducible apply sE); rfl); conv => arg 3; whnf)
  refine sat_rng (wrap64 (by omega) (by omega)) ?_
  (conv => arg 3; whnf); repeat ((first | (with_reducible apply sT); rfl | (with_reducible apply sF); rfl | (with_reducible apply sE); rfl); conv => arg 3; whnf)
  refine sat_rng (wrap64 (by omega) (by omega)) ?_
  (conv => arg 3; whnf); repeat ((first | (with_reducible apply sT); rfl | (with_reducible apply sF); rfl | (with_reducible apply sE); rfl); conv => arg 3; whnf)
  exact sat_ret ⟨rfl, rfl⟩
end Stk
