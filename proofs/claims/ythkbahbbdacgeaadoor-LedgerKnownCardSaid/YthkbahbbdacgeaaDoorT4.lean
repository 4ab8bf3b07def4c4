/- Bytes are written. -/
import Derived.Test.YthkbahbbdacgeaaDoorT3
namespace Stk
open Go
set_option maxRecDepth 100000
set_option linter.unusedSimpArgs false
set_option linter.unusedVariables false
set_option maxHeartbeats 8000000
def hz : H8 := ⟨1779033703, 3144134277, 1013904242, 2773480762, 1359893119, 2600822924, 528734635, 1541459225⟩
/-- The state behind k blocks. -/
def hb (L : List Tr) : Nat → H8
  | 0 => hz
  | k + 1 => comp ((L.drop (64 * k)).take 64) (hb L k)
theorem hz_w : hz.W := by constructor <;> (unfold W32 hz; constructor <;> decide)
theorem hb_w (L : List Tr) : ∀ k, (hb L k).W
  | 0 => hz_w
  | k + 1 => ad8_w _ _
theorem hb_append (L M : List Tr) : ∀ k, 64 * k ≤ L.length → hb (L ++ M) k = hb L k
  | 0, _ => rfl
  | k + 1, h => by
    show comp _ _ = comp _ _
    rw [hb_append L M k (by omega), List.drop_append_of_le_length (by omega), List.take_append_of_le_length (by rw [List.length_drop]; omega)]
structure DI (L wt : List Tr) : Prop where
  l : wt.length = 64
  b : AllB wt
  e : wt.take (L.length % 64) = L.drop (64 * (L.length / 64))
abbrev dG (L wt : List Tr) : Tr := dT (hb L (L.length / 64)).l wt (L.length : Int)
theorem DI.part {L wt : List Tr} (h : DI L wt) (x : List Tr) (hx : AllB x) (hl : L.length % 64 + x.length < 64) :
    DI (L ++ x) (wt.take (L.length % 64) ++ x ++ wt.drop (L.length % 64 + x.length)) ∧ hb (L ++ x) ((L ++ x).length / 64) = hb L (L.length / 64) := by
  have e1 : (L ++ x).length = L.length + x.length := List.length_append
  have e2 : (L ++ x).length / 64 = L.length / 64 := by omega
  have e3 : (L ++ x).length % 64 = L.length % 64 + x.length := by omega
  have hw := h.l
  have et : (wt.take (L.length % 64)).length = L.length % 64 := by rw [List.length_take]; omega
  refine ⟨⟨?_, ?_, ?_⟩, ?_⟩
  · rw [List.length_append, List.length_append, et, List.length_drop]; omega
  · intro y hy
    rcases List.mem_append.1 hy with hy | hy
    · rcases List.mem_append.1 hy with hy | hy
      · exact h.b y (List.mem_of_mem_take hy)
      · exact hx y hy
    · exact h.b y (List.mem_of_mem_drop hy)
  · rw [e3, e2, List.drop_append_of_le_length (by omega), ← h.e]
    rw [List.take_append_of_le_length (by rw [List.length_append, et]; omega), List.take_of_length_le (by rw [List.length_append, et]; omega)]
  · rw [e2, hb_append _ _ _ (by omega)]
theorem DI.full {L wt : List Tr} (h : DI L wt) (x : List Tr) (hx : AllB x) (hl : L.length % 64 + x.length = 64) :
    (wt.take (L.length % 64) ++ x ++ wt.drop (L.length % 64 + x.length)).length = 64 ∧ AllB (wt.take (L.length % 64) ++ x ++ wt.drop (L.length % 64 + x.length)) ∧
    DI (L ++ x) (wt.take (L.length % 64) ++ x ++ wt.drop (L.length % 64 + x.length)) ∧ hb (L ++ x) ((L ++ x).length / 64) = comp (wt.take (L.length % 64) ++ x ++ wt.drop (L.length % 64 + x.length)) (hb L (L.length / 64)) := by
  have e1 : (L ++ x).length = L.length + x.length := List.length_append
  have e2 : (L ++ x).length / 64 = L.length / 64 + 1 := by omega
  have e3 : (L ++ x).length % 64 = 0 := by omega
  have hw := h.l
  have et : (wt.take (L.length % 64)).length = L.length % 64 := by rw [List.length_take]; omega
  have ed : wt.drop (L.length % 64 + x.length) = [] := List.drop_eq_nil_of_le (by omega)
  have hlen : (wt.take (L.length % 64) ++ x ++ wt.drop (L.length % 64 + x.length)).length = 64 := by
    rw [List.length_append, List.length_append, et, List.length_drop]; omega
  have hbb : AllB (wt.take (L.length % 64) ++ x ++ wt.drop (L.length % 64 + x.length)) := by
    intro y hy
    rcases List.mem_append.1 hy with hy | hy
    · rcases List.mem_append.1 hy with hy | hy
      · exact h.b y (List.mem_of_mem_take hy)
      · exact hx y hy
    · exact h.b y (List.mem_of_mem_drop hy)
  refine ⟨hlen, hbb, ⟨hlen, hbb, ?_⟩, ?_⟩
  · rw [e3, List.take_zero, List.drop_eq_nil_of_le (by omega)]
  · rw [e2]
    show comp (((L ++ x).drop (64 * (L.length / 64))).take 64) (hb (L ++ x) (L.length / 64)) = _
    rw [hb_append _ _ _ (by omega), List.drop_append_of_le_length (by omega), ← h.e, ed, List.append_nil, List.take_of_length_le (by rw [List.length_append, et]; omega)]
structure WSt (L b : List Tr) where
  j : Nat
  wt : List Tr
  M : List Tr
  jb : j ≤ b.length
  e : M = L ++ b.take j
  di : DI M wt
theorem k_write (L b wt : List Tr) (hb' : AllB b) (hi : DI L wt) (hl : L.length + b.length ≤ 2 ^ 50) :
    ACalls PP GG F.sha_Digest_Write [pt 0, .bz 1 b] [.var (.t (dG L wt))] fun r H' => r = ti 0 ∧ ∃ wt', DI (L ++ b) wt' ∧ H' = [.var (.t (dG (L ++ b) wt'))] := by
  refine K.sha_Digest_Write.callsQ rfl ?_
  (conv => arg 3; whnf); repeat ((first | (with_reducible apply sT); rfl | (with_reducible apply sF); rfl | (with_reducible apply sE); rfl); conv => arg 3; whnf)
  refine sat_loopOf mkX_ops (σ := WSt L b) (fun s => [(0, pt 0), (1, .bz 1 (b.drop s.j))]) (fun s => [.var (.t (dG s.M s.wt))]) (fun s => b.length - s.j)
    (fun ex fr' H' => ex = .exit 0 ∧ fr' = [] ∧ ∃ wt', DI (L ++ b) wt' ∧ H' = [.var (.t (dG (L ++ b) wt'))]) ⟨0, wt, L, Nat.zero_le _, by rw [List.take_zero, List.append_nil], hi⟩ ?_ ?_
  · rintro ⟨j, wt, M, jb, hMe, di⟩
    dsimp only
    refine sat_br (fun hq => ?_) (fun hq => ?_)
    · have hq := of_decide_eq_true hq
      rw [List.length_drop] at hq
      have hM : M.length = L.length + j := by rw [hMe, List.length_append, List.length_take]; omega
      obtain ⟨a, ha⟩ : ∃ a, M.length % 64 = a := ⟨_, rfl⟩
      have ha64 : a < 64 := by omega
      have hta : Int.tmod (M.length : Int) 64 = (a : Int) := by rw [Int.tmod_eq_emod_of_nonneg (by omega)]; omega
      (conv => arg 3; whnf); repeat ((first | (with_reducible apply sT); rfl | (with_reducible apply sF); rfl | (with_reducible apply sE); rfl); conv => arg 3; whnf)
      refine sat_asrt rfl ?_
      rw [hta]
      (conv => arg 3; whnf); repeat ((first | (with_reducible apply sT); rfl | (with_reducible apply sF); rfl | (with_reducible apply sE); rfl); conv => arg 3; whnf)
      refine sat_rng (wrap64 (by omega) (by omega)) ?_
      (conv => arg 3; whnf); repeat ((first | (with_reducible apply sT); rfl | (with_reducible apply sF); rfl | (with_reducible apply sE); rfl); conv => arg 3; whnf)
      refine sat_asrt (decide_eq_true (by omega)) ?_
      (conv => arg 3; whnf); repeat ((first | (with_reducible apply sT); rfl | (with_reducible apply sF); rfl | (with_reducible apply sE); rfl); conv => arg 3; whnf)
      rw [Int.toNat_natCast]
      have hxl : (List.take (64 - a) (b.drop j)).length = min (64 - a) (b.length - j) := by rw [List.length_take, List.length_drop]
      have hxb : AllB (List.take (64 - a) (b.drop j)) := fun y hy => hb' y (List.mem_of_mem_drop (List.mem_of_mem_take hy))
      have hxe : M ++ List.take (64 - a) (b.drop j) = L ++ b.take (j + (List.take (64 - a) (b.drop j)).length) := by
        rw [hMe, List.append_assoc]
        congr 1
        rw [List.take_add, hxl]
        congr 1
        rw [← List.take_take, List.take_of_length_le (i := b.length - j) (by rw [List.length_drop]; omega)]
      generalize List.take (64 - a) (b.drop j) = x at hxl hxb hxe ⊢
      have hwl := di.l
      have hpart := di.part x hxb
      have hfull := di.full x hxb
      rw [ha] at hpart hfull
      have hov : over wt a x = wt.take a ++ x ++ wt.drop (a + x.length) := rfl
      have hag : x.any Tr.isAgg = false := by
        rw [List.any_eq_false]
        intro y hy
        obtain ⟨v, rfl, _⟩ := hxb y hy
        simp [Tr.isAgg]
      have hk : min (List.drop j b).length (64 - a) = x.length := by rw [List.length_drop]; omega
      have hdr : List.drop (x.length : Int).toNat (List.take (List.drop j b).length (List.drop j b)) = b.drop (j + x.length) := by rw [Int.toNat_natCast, List.take_length, List.drop_drop]
      have w1 : IntKind.wrap .u64 (x.length : Int) = x.length := by rw [IntKind.wrap_u64]; omega
      have w2 : IntKind.wrap .u64 ((M.length : Int) + x.length) = (M.length : Int) + x.length := by rw [IntKind.wrap_u64]; omega
      refine sat_asrt (by rw [hag]; simp; omega) ?_
      (conv => arg 3; whnf); repeat ((first | (with_reducible apply sT); rfl | (with_reducible apply sF); rfl | (with_reducible apply sE); rfl); conv => arg 3; whnf)
      rw [hk]
      refine sat_rng w1 ?_
      (conv => arg 3; whnf); repeat ((first | (with_reducible apply sT); rfl | (with_reducible apply sF); rfl | (with_reducible apply sE); rfl); conv => arg 3; whnf)
      refine sat_rng w2 ?_
      (conv => arg 3; whnf); repeat ((first | (with_reducible apply sT); rfl | (with_reducible apply sF); rfl | (with_reducible apply sE); rfl); conv => arg 3; whnf)
      refine sat_asrt (decide_eq_true (by rw [List.length_drop]; omega)) ?_
      (conv => arg 3; whnf); repeat ((first | (with_reducible apply sT); rfl | (with_reducible apply sF); rfl | (with_reducible apply sE); rfl); conv => arg 3; whnf)
      refine sat_rng (wrap64 (by omega) (by omega)) ?_
      (conv => arg 3; whnf); repeat ((first | (with_reducible apply sT); rfl | (with_reducible apply sF); rfl | (with_reducible apply sE); rfl); conv => arg 3; whnf)
      refine sat_br (fun h64 => ?_) (fun h64 => ?_)
      · have h64 := eq_of_beq h64
        obtain ⟨f1, f2, f3, f4⟩ := hfull (by omega)
        rw [← hov] at f1 f2 f3 f4
        (conv => arg 3; whnf); repeat ((first | (with_reducible apply sT); rfl | (with_reducible apply sF); rfl | (with_reducible apply sE); rfl); conv => arg 3; whnf)
        refine sat_call (k_block (hb M (M.length / 64)) (over wt a x) (M.length + x.length) (hb_w _ _) f2 f1) ?_
        rintro r H' ⟨rfl, rfl⟩
        have hdG : dT (comp (over wt a x) (hb M (M.length / 64))).l (over wt a x) ((M.length : Int) + x.length) = dG (M ++ x) (over wt a x) := by
          show dT _ _ _ = dT _ _ _
          rw [f4, List.length_append, Int.natCast_add]
        (conv => arg 3; whnf); repeat ((first | (with_reducible apply sT); rfl | (with_reducible apply sF); rfl | (with_reducible apply sE); rfl); conv => arg 3; whnf)
        rw [hdr]
        exact sat_ret ⟨⟨j + x.length, over wt a x, M ++ x, by omega, hxe, f3⟩, rfl, congrArg (fun z => [AO.var (AV.t z)]) hdG, by show b.length - (j + x.length) < b.length - j; omega⟩
      · have h64 : ¬ ((a : Int) + x.length = 64) := by simpa using h64
        obtain ⟨f1, f2⟩ := hpart (by omega)
        rw [← hov] at f1
        have hdG : dT (hb M (M.length / 64)).l (over wt a x) ((M.length : Int) + x.length) = dG (M ++ x) (over wt a x) := by
          show dT _ _ _ = dT _ _ _
          rw [f2, List.length_append, Int.natCast_add]
        (conv => arg 3; whnf); repeat ((first | (with_reducible apply sT); rfl | (with_reducible apply sF); rfl | (with_reducible apply sE); rfl); conv => arg 3; whnf)
        rw [hdr]
        exact sat_ret ⟨⟨j + x.length, over wt a x, M ++ x, by omega, hxe, f1⟩, rfl, congrArg (fun z => [AO.var (AV.t z)]) hdG, by show b.length - (j + x.length) < b.length - j; omega⟩
    · have hq := of_decide_eq_false hq
      rw [List.length_drop] at hq
      rw [List.take_of_length_le (by omega)] at hMe
      subst hMe
      (conv => arg 3; whnf); repeat ((first | (with_reducible apply sT); rfl | (with_reducible apply sF); rfl | (with_reducible apply sE); rfl); conv => arg 3; whnf)
      exact sat_ret ⟨rfl, rfl, wt, di, rfl⟩
  · rintro ex fr' H' ⟨rfl, rfl, wt', di, rfl⟩
    (conv => arg 3; whnf); repeat ((first | (with_reducible apply sT); rfl | (with_reducible apply sF); rfl | (with_reducible apply sE); rfl); conv => arg 3; whnf)
    exact sat_ret ⟨rfl, wt', di, rfl⟩
end Stk
