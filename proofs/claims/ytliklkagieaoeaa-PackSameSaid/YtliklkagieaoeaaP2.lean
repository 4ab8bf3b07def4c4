/- The writer: rows of numbers, marks, data, commands, entries. -/
import Derived.Test.YtliklkagieaoeaaP1
namespace Stk
open Go
set_option maxRecDepth 100000
set_option linter.unusedSimpArgs false
set_option linter.unusedVariables false
set_option maxHeartbeats 4000000
def nums (ns : List Int) : List Tr := (ns.map num).flatten
theorem nums_nil : nums [] = [] := rfl
theorem nums_cons (n : Int) (ns : List Int) : nums (n :: ns) = num n ++ nums ns := rfl
theorem nums_append (a b : List Int) : nums (a ++ b) = nums a ++ nums b := by simp [nums]
theorem nums_len : ∀ ns : List Int, (nums ns).length = 8 * ns.length
  | [] => rfl
  | n :: ns => by rw [nums_cons, List.length_append, num_len, nums_len ns, List.length_cons]; omega
structure NuSt (w : Wr) (ns : List Int) where
  i : Nat
  W : Wr
  eq : W = w.put (nums (ns.take i))
  le : i ≤ ns.length
theorem k_numbers (w : Wr) (hw : w.b.length ≤ 2 ^ 39) (ns : List Int) (hn : ns.length ≤ 20) : ACalls PP GG F.pack_writer_numbers [pt 0, .bz 1 (ns.map i6)] w.H fun r H' => r = .tup [] ∧ H' = (w.put (nums ns)).H' := by
  refine K.pack_writer_numbers.callsC rfl ?_
  (conv => arg 3; whnf); repeat (first | ((with_reducible refine sat_brT ?_ ?_); rfl; conv => arg 3; whnf) | ((with_reducible refine sat_brF ?_ ?_); rfl; conv => arg 3; whnf) | ((with_reducible refine sat_eqv ?_ ?_); rfl; conv => arg 3; whnf))
  refine sat_loopOf mkX_ops (σ := NuSt w ns) (fun x => [(0, pt 0), (6, .bz 1 (ns.map i6)), (7, ti (ns.map i6).length), (8, ti x.i)]) (fun x => x.W.H) (fun x => ns.length - x.i)
      (fun ex fr' H' => H' = (w.put (nums ns)).H ∧ ex = .exit 0 ∧ fr' = []) ⟨0, w, w.put_nil.symm, Nat.zero_le _⟩ ?_ ?_
  · rintro ⟨i, W, heq, hi⟩
    have hWl : W.b.length ≤ 2 ^ 39 + 160 := by
      have := nums_len (ns.take i)
      rw [List.length_take] at this
      rw [heq]; simp [Wr.put]; omega
    dsimp only
    refine sat_br (fun h => ?_) (fun h => ?_)
    · have h : i < ns.length := by have := of_decide_eq_true h; simp at this; exact this
      have hg : (ns.map i6)[i]? = some (i6 ns[i]) := by rw [List.getElem?_map, List.getElem?_eq_getElem h]; rfl
      have hg2 : ns[i]? = some ns[i] := List.getElem?_eq_getElem h
      (conv => arg 3; whnf); repeat (first | ((with_reducible refine sat_brT ?_ ?_); rfl; conv => arg 3; whnf) | ((with_reducible refine sat_brF ?_ ?_); rfl; conv => arg 3; whnf) | ((with_reducible refine sat_eqv ?_ ?_); rfl; conv => arg 3; whnf))
      refine sat_idx (i6 ns[i]) (by omega) (by rw [Int.toNat_natCast]; exact hg) ?_
      (conv => arg 3; whnf); repeat (first | ((with_reducible refine sat_brT ?_ ?_); rfl; conv => arg 3; whnf) | ((with_reducible refine sat_brF ?_ ?_); rfl; conv => arg 3; whnf) | ((with_reducible refine sat_eqv ?_ ?_); rfl; conv => arg 3; whnf))
      refine sat_rngw ?_
      rw [wrap_uu]
      (conv => arg 3; whnf); repeat (first | ((with_reducible refine sat_brT ?_ ?_); rfl; conv => arg 3; whnf) | ((with_reducible refine sat_brF ?_ ?_); rfl; conv => arg 3; whnf) | ((with_reducible refine sat_eqv ?_ ?_); rfl; conv => arg 3; whnf))
      refine sat_call (k_fixed W (by omega) _ (uu_range _) 8 (by omega)) ?_
      rintro r H' ⟨rfl, rfl⟩
      (conv => arg 3; whnf); repeat (first | ((with_reducible refine sat_brT ?_ ?_); rfl; conv => arg 3; whnf) | ((with_reducible refine sat_brF ?_ ?_); rfl; conv => arg 3; whnf) | ((with_reducible refine sat_eqv ?_ ?_); rfl; conv => arg 3; whnf))
      refine sat_rng (wrap64 (by omega) (by omega)) ?_
      exact sat_ret ⟨⟨i + 1, W.put (num ns[i]), by rw [heq, Wr.put_put, take_succ_get hg2, nums_append, nums_cons, nums_nil, List.append_nil], by omega⟩, rfl, rfl, by show ns.length - (i + 1) < ns.length - i; omega⟩
    · have h : ¬ i < ns.length := by have := of_decide_eq_false h; simp at this; omega
      have : ns.take i = ns := List.take_of_length_le (by omega)
      rw [this] at heq
      exact sat_ret ⟨by rw [heq], rfl, rfl⟩
  · rintro ex fr' H' ⟨rfl, rfl, rfl⟩
    (conv => arg 3; whnf); repeat (first | ((with_reducible refine sat_brT ?_ ?_); rfl; conv => arg 3; whnf) | ((with_reducible refine sat_brF ?_ ?_); rfl; conv => arg 3; whnf) | ((with_reducible refine sat_eqv ?_ ?_); rfl; conv => arg 3; whnf))
    exact sat_ret ⟨rfl, rfl⟩
theorem mkB_le (y : Bool) : mkB y = leB 1 (if y then 1 else 0) := by cases y <;> rfl
theorem k_mark (w : Wr) (hw : w.b.length ≤ 2 ^ 39) (y : Bool) : ACalls PP GG F.pack_writer_mark [pt 0, tb y] w.H fun r H' => r = .tup [] ∧ H' = (w.put (mkB y)).H' := by
  rw [mkB_le]
  refine K.pack_writer_mark.callsC rfl ?_
  cases y
  · (conv => arg 3; whnf); repeat (first | ((with_reducible refine sat_brT ?_ ?_); rfl; conv => arg 3; whnf) | ((with_reducible refine sat_brF ?_ ?_); rfl; conv => arg 3; whnf) | ((with_reducible refine sat_eqv ?_ ?_); rfl; conv => arg 3; whnf))
    refine sat_call (k_fixed w (by omega) 0 (by omega) 1 (by omega)) ?_
    rintro r H' ⟨rfl, rfl⟩
    (conv => arg 3; whnf); repeat (first | ((with_reducible refine sat_brT ?_ ?_); rfl; conv => arg 3; whnf) | ((with_reducible refine sat_brF ?_ ?_); rfl; conv => arg 3; whnf) | ((with_reducible refine sat_eqv ?_ ?_); rfl; conv => arg 3; whnf))
    exact sat_ret ⟨rfl, rfl⟩
  · (conv => arg 3; whnf); repeat (first | ((with_reducible refine sat_brT ?_ ?_); rfl; conv => arg 3; whnf) | ((with_reducible refine sat_brF ?_ ?_); rfl; conv => arg 3; whnf) | ((with_reducible refine sat_eqv ?_ ?_); rfl; conv => arg 3; whnf))
    refine sat_call (k_fixed w (by omega) 1 (by omega) 1 (by omega)) ?_
    rintro r H' ⟨rfl, rfl⟩
    (conv => arg 3; whnf); repeat (first | ((with_reducible refine sat_brT ?_ ?_); rfl; conv => arg 3; whnf) | ((with_reducible refine sat_brF ?_ ?_); rfl; conv => arg 3; whnf) | ((with_reducible refine sat_eqv ?_ ?_); rfl; conv => arg 3; whnf))
    exact sat_ret ⟨rfl, rfl⟩
def Wr.data (w : Wr) (d : List Tr) : Wr := { b := w.b ++ (leB 4 d.length ++ d), long := w.long || decide ((d.length : Int) > 65536) }
theorem k_data (w : Wr) (hw : w.b.length ≤ 2 ^ 39) (d : List Tr) (hd : d.length ≤ 2 ^ 39) : ACalls PP GG F.pack_writer_data [pt 0, .bz 1 d] w.H fun r H' => r = .tup [] ∧ H' = (w.data d).H' := by
  refine K.pack_writer_data.callsC rfl ?_
  obtain ⟨b, long⟩ := w
  cases long
  · skip
    (conv => arg 3; whnf); repeat (first | ((with_reducible refine sat_brT ?_ ?_); rfl; conv => arg 3; whnf) | ((with_reducible refine sat_brF ?_ ?_); rfl; conv => arg 3; whnf) | ((with_reducible refine sat_eqv ?_ ?_); rfl; conv => arg 3; whnf))
    refine sat_rngw ?_
    rw [wrap_uu, show uu (d.length : Int) = d.length by unfold uu; omega]
    (conv => arg 3; whnf); repeat (first | ((with_reducible refine sat_brT ?_ ?_); rfl; conv => arg 3; whnf) | ((with_reducible refine sat_brF ?_ ?_); rfl; conv => arg 3; whnf) | ((with_reducible refine sat_eqv ?_ ?_); rfl; conv => arg 3; whnf))
    refine sat_call (k_fixed ⟨b, decide ((d.length : Int) > 65536)⟩ (by show b.length ≤ _; have h0 : b.length ≤ 2 ^ 39 := hw; omega) _ (by omega) 4 (by omega)) ?_
    rintro r H' ⟨rfl, rfl⟩
    (conv => arg 3; whnf); repeat (first | ((with_reducible refine sat_brT ?_ ?_); rfl; conv => arg 3; whnf) | ((with_reducible refine sat_brF ?_ ?_); rfl; conv => arg 3; whnf) | ((with_reducible refine sat_eqv ?_ ?_); rfl; conv => arg 3; whnf))
    refine sat_asrt (by simp [Wr.put]) ?_
    refine sat_asrt (by simp [Wr.put, roomy, leB_len] at hw ⊢; omega) ?_
    refine sat_brT (by simp [Wr.put]) ?_
    (conv => arg 3; whnf); repeat (first | ((with_reducible refine sat_brT ?_ ?_); rfl; conv => arg 3; whnf) | ((with_reducible refine sat_brF ?_ ?_); rfl; conv => arg 3; whnf) | ((with_reducible refine sat_eqv ?_ ?_); rfl; conv => arg 3; whnf))
    refine sat_ret ⟨rfl, ?_⟩
    simp only [Wr.data, Wr.put, List.append_assoc]
    rfl
  · skip
    (conv => arg 3; whnf); repeat (first | ((with_reducible refine sat_brT ?_ ?_); rfl; conv => arg 3; whnf) | ((with_reducible refine sat_brF ?_ ?_); rfl; conv => arg 3; whnf) | ((with_reducible refine sat_eqv ?_ ?_); rfl; conv => arg 3; whnf))
    refine sat_rngw ?_
    rw [wrap_uu, show uu (d.length : Int) = d.length by unfold uu; omega]
    (conv => arg 3; whnf); repeat (first | ((with_reducible refine sat_brT ?_ ?_); rfl; conv => arg 3; whnf) | ((with_reducible refine sat_brF ?_ ?_); rfl; conv => arg 3; whnf) | ((with_reducible refine sat_eqv ?_ ?_); rfl; conv => arg 3; whnf))
    refine sat_call (k_fixed ⟨b, true⟩ (by show b.length ≤ _; have h0 : b.length ≤ 2 ^ 39 := hw; omega) _ (by omega) 4 (by omega)) ?_
    rintro r H' ⟨rfl, rfl⟩
    (conv => arg 3; whnf); repeat (first | ((with_reducible refine sat_brT ?_ ?_); rfl; conv => arg 3; whnf) | ((with_reducible refine sat_brF ?_ ?_); rfl; conv => arg 3; whnf) | ((with_reducible refine sat_eqv ?_ ?_); rfl; conv => arg 3; whnf))
    refine sat_asrt (by simp [Wr.put]) ?_
    refine sat_asrt (by simp [Wr.put, roomy, leB_len] at hw ⊢; omega) ?_
    refine sat_brT (by simp [Wr.put]) ?_
    (conv => arg 3; whnf); repeat (first | ((with_reducible refine sat_brT ?_ ?_); rfl; conv => arg 3; whnf) | ((with_reducible refine sat_brF ?_ ?_); rfl; conv => arg 3; whnf) | ((with_reducible refine sat_eqv ?_ ?_); rfl; conv => arg 3; whnf))
    refine sat_ret ⟨rfl, ?_⟩
    simp only [Wr.data, Wr.put, List.append_assoc]
    rfl
/-! commands -/
structure Cm where
  kind : Int
  client : Int
  seq : Int
  node : Int
  epoch : Int
  yes : Bool
  hash : List Tr
  data : List Tr
abbrev Cm.av (c : Cm) : AV := .agg [.t (u8 c.kind), ti c.client, ti c.seq, ti c.node, ti c.epoch, tb c.yes, .t (.arr 32 c.hash), .bz 1 c.data]
structure Cm.OK (c : Cm) : Prop where
  k : 0 ≤ c.kind ∧ c.kind ≤ 255
  h : c.hash.length = 32
  hb : AllB c.hash
  db : AllB c.data
  dl : c.data.length ≤ 2 ^ 38
def Cm.head (c : Cm) : List Tr := [u8 c.kind] ++ nums [c.client, c.seq, c.node, c.epoch] ++ mkB c.yes ++ c.hash
theorem Cm.head_len (c : Cm) (hc : c.OK) : c.head.length = 66 := by simp [Cm.head, nums_len, mkB, hc.h]
def Wr.cmd (w : Wr) (c : Cm) : Wr := (w.put c.head).data c.data
theorem kind_le {k : Int} (h : 0 ≤ k ∧ k ≤ 255) : leB 1 k = [u8 k] := by rw [leB, leB, show k % 256 = k by omega]
theorem k_wcmd (w : Wr) (hw : w.b.length ≤ 2 ^ 38) (c : Cm) (hc : c.OK) : ACalls PP GG F.pack_writer_cmd [pt 0, c.av] w.H fun r H' => r = .tup [] ∧ H' = (w.cmd c).H' := by
  refine K.pack_writer_cmd.callsC rfl ?_
  have hk := hc.k
  (conv => arg 3; whnf); repeat (first | ((with_reducible refine sat_brT ?_ ?_); rfl; conv => arg 3; whnf) | ((with_reducible refine sat_brF ?_ ?_); rfl; conv => arg 3; whnf) | ((with_reducible refine sat_eqv ?_ ?_); rfl; conv => arg 3; whnf))
  refine sat_rng (by rw [IntKind.wrap_u64]; omega) ?_
  (conv => arg 3; whnf); repeat (first | ((with_reducible refine sat_brT ?_ ?_); rfl; conv => arg 3; whnf) | ((with_reducible refine sat_brF ?_ ?_); rfl; conv => arg 3; whnf) | ((with_reducible refine sat_eqv ?_ ?_); rfl; conv => arg 3; whnf))
  refine sat_call (k_fixed w (by omega) _ (by omega) 1 (by omega)) ?_
  rintro r H' ⟨rfl, rfl⟩
  rw [kind_le hk]
  (conv => arg 3; whnf); repeat (first | ((with_reducible refine sat_brT ?_ ?_); rfl; conv => arg 3; whnf) | ((with_reducible refine sat_brF ?_ ?_); rfl; conv => arg 3; whnf) | ((with_reducible refine sat_eqv ?_ ?_); rfl; conv => arg 3; whnf))
  refine sat_call (k_numbers (w.put [u8 c.kind]) (by simp [Wr.put]; omega) [c.client, c.seq, c.node, c.epoch] (by simp)) ?_
  rintro r H' ⟨rfl, rfl⟩
  (conv => arg 3; whnf); repeat (first | ((with_reducible refine sat_brT ?_ ?_); rfl; conv => arg 3; whnf) | ((with_reducible refine sat_brF ?_ ?_); rfl; conv => arg 3; whnf) | ((with_reducible refine sat_eqv ?_ ?_); rfl; conv => arg 3; whnf))
  refine sat_call (k_mark ((w.put [u8 c.kind]).put (nums [c.client, c.seq, c.node, c.epoch])) (by simp [Wr.put, nums_len]; omega) c.yes) ?_
  rintro r H' ⟨rfl, rfl⟩
  have hWl : (((w.put [u8 c.kind]).put (nums [c.client, c.seq, c.node, c.epoch])).put (mkB c.yes)).b.length ≤ 2 ^ 38 + 34 := by simp [Wr.put, nums_len, mkB]; omega
  have hWe : w.cmd c = ((((w.put [u8 c.kind]).put (nums [c.client, c.seq, c.node, c.epoch])).put (mkB c.yes)).put c.hash).data c.data := by simp only [Wr.cmd, Wr.put_put, Cm.head, List.append_assoc]
  rw [hWe]
  generalize (((w.put [u8 c.kind]).put (nums [c.client, c.seq, c.node, c.epoch])).put (mkB c.yes)) = W at *
  have hh := hc.h
  have eh : List.take (32 - 0) (List.drop 0 c.hash) = c.hash := by rw [List.drop_zero, List.take_of_length_le (by omega)]
  (conv => arg 3; whnf); repeat (first | ((with_reducible refine sat_brT ?_ ?_); rfl; conv => arg 3; whnf) | ((with_reducible refine sat_brF ?_ ?_); rfl; conv => arg 3; whnf) | ((with_reducible refine sat_eqv ?_ ?_); rfl; conv => arg 3; whnf))
  refine sat_asrt (by simp; omega) ?_
  (conv => arg 3; whnf); repeat (first | ((with_reducible refine sat_brT ?_ ?_); rfl; conv => arg 3; whnf) | ((with_reducible refine sat_brF ?_ ?_); rfl; conv => arg 3; whnf) | ((with_reducible refine sat_eqv ?_ ?_); rfl; conv => arg 3; whnf))
  refine sat_asrt (by simp) ?_
  refine sat_asrt (by simp [roomy]; omega) ?_
  refine sat_brT (by simp) ?_
  (conv => arg 3; whnf); repeat (first | ((with_reducible refine sat_brT ?_ ?_); rfl; conv => arg 3; whnf) | ((with_reducible refine sat_brF ?_ ?_); rfl; conv => arg 3; whnf) | ((with_reducible refine sat_eqv ?_ ?_); rfl; conv => arg 3; whnf))
  rw [eh]
  refine sat_call (k_data (W.put c.hash) (by simp [Wr.put]; omega) c.data (by have := hc.dl; omega)) ?_
  rintro r H' ⟨rfl, rfl⟩
  (conv => arg 3; whnf); repeat (first | ((with_reducible refine sat_brT ?_ ?_); rfl; conv => arg 3; whnf) | ((with_reducible refine sat_brF ?_ ?_); rfl; conv => arg 3; whnf) | ((with_reducible refine sat_eqv ?_ ?_); rfl; conv => arg 3; whnf))
  exact sat_ret ⟨rfl, rfl⟩
structure En where
  term : Int
  cmd : Cm
abbrev En.av (x : En) : AV := .agg [ti x.term, x.cmd.av]
def Wr.entry (w : Wr) (x : En) : Wr := (w.put (num x.term)).cmd x.cmd
theorem k_wentry (w : Wr) (hw : w.b.length ≤ 2 ^ 37) (x : En) (hc : x.cmd.OK) : ACalls PP GG F.pack_writer_entry [pt 0, x.av] w.H fun r H' => r = .tup [] ∧ H' = (w.entry x).H' := by
  refine K.pack_writer_entry.callsC rfl ?_
  (conv => arg 3; whnf); repeat (first | ((with_reducible refine sat_brT ?_ ?_); rfl; conv => arg 3; whnf) | ((with_reducible refine sat_brF ?_ ?_); rfl; conv => arg 3; whnf) | ((with_reducible refine sat_eqv ?_ ?_); rfl; conv => arg 3; whnf))
  refine sat_call (k_numbers w (by omega) [x.term] (by simp)) ?_
  rintro r H' ⟨rfl, rfl⟩
  rw [show nums [x.term] = num x.term by simp [nums]]
  (conv => arg 3; whnf); repeat (first | ((with_reducible refine sat_brT ?_ ?_); rfl; conv => arg 3; whnf) | ((with_reducible refine sat_brF ?_ ?_); rfl; conv => arg 3; whnf) | ((with_reducible refine sat_eqv ?_ ?_); rfl; conv => arg 3; whnf))
  refine sat_call (k_wcmd (w.put (num x.term)) (by simp [Wr.put, num_len]; omega) x.cmd hc) ?_
  rintro r H' ⟨rfl, rfl⟩
  (conv => arg 3; whnf); repeat (first | ((with_reducible refine sat_brT ?_ ?_); rfl; conv => arg 3; whnf) | ((with_reducible refine sat_brF ?_ ?_); rfl; conv => arg 3; whnf) | ((with_reducible refine sat_eqv ?_ ?_); rfl; conv => arg 3; whnf))
  exact sat_ret ⟨rfl, rfl⟩
theorem k_clip (L : List Tr) (hl : L.length ≤ 2 ^ 50) : ACalls PP GG F.slices_Clip_byte_byte [.sl 0 0 [] 0 L.length none] [.row 1 L] fun r H' => r = .sl 0 0 [] 0 L.length (some L.length) ∧ H' = [.row 1 L] := by
  refine K.slices_Clip_byte_byte.callsC rfl ?_
  (conv => arg 3; whnf); repeat (first | ((with_reducible refine sat_brT ?_ ?_); rfl; conv => arg 3; whnf) | ((with_reducible refine sat_brF ?_ ?_); rfl; conv => arg 3; whnf) | ((with_reducible refine sat_eqv ?_ ?_); rfl; conv => arg 3; whnf))
  refine sat_asrt (by simp) ?_
  (conv => arg 3; whnf); repeat (first | ((with_reducible refine sat_brT ?_ ?_); rfl; conv => arg 3; whnf) | ((with_reducible refine sat_brF ?_ ?_); rfl; conv => arg 3; whnf) | ((with_reducible refine sat_eqv ?_ ?_); rfl; conv => arg 3; whnf))
  refine sat_asrt (by simp) ?_
  (conv => arg 3; whnf); repeat (first | ((with_reducible refine sat_brT ?_ ?_); rfl; conv => arg 3; whnf) | ((with_reducible refine sat_brF ?_ ?_); rfl; conv => arg 3; whnf) | ((with_reducible refine sat_eqv ?_ ?_); rfl; conv => arg 3; whnf))
  have e : ((L.length : Int).toNat - 0) = L.length := by omega
  exact sat_ret ⟨by rfl, rfl⟩
theorem k_told (w : Wr) (hl : w.b.length ≤ 2 ^ 50) : ACalls PP GG F.pack_writer_told [pt 0] w.H fun r H' => 
    (w.long = true ∧ r = .tup [.sl 3 0 [] 0 0 none, ti 3] ∧ H' = w.H' ++ [.row 1 []]) ∨ (w.long = false ∧ r = .tup [.sl 2 0 [] 0 w.b.length (some w.b.length), ti 0] ∧ H' = w.H') := by
  refine K.pack_writer_told.callsC rfl ?_
  (conv => arg 3; whnf); repeat (first | ((with_reducible refine sat_brT ?_ ?_); rfl; conv => arg 3; whnf) | ((with_reducible refine sat_brF ?_ ?_); rfl; conv => arg 3; whnf) | ((with_reducible refine sat_eqv ?_ ?_); rfl; conv => arg 3; whnf))
  refine sat_br (fun h => ?_) (fun h => ?_)
  · (conv => arg 3; whnf); repeat (first | ((with_reducible refine sat_brT ?_ ?_); rfl; conv => arg 3; whnf) | ((with_reducible refine sat_brF ?_ ?_); rfl; conv => arg 3; whnf) | ((with_reducible refine sat_eqv ?_ ?_); rfl; conv => arg 3; whnf))
    exact sat_ret (.inl ⟨h, rfl, rfl⟩)
  · (conv => arg 3; whnf); repeat (first | ((with_reducible refine sat_brT ?_ ?_); rfl; conv => arg 3; whnf) | ((with_reducible refine sat_brF ?_ ?_); rfl; conv => arg 3; whnf) | ((with_reducible refine sat_eqv ?_ ?_); rfl; conv => arg 3; whnf))
    refine sat_call (k_clip w.b hl) ?_
    rintro r H' ⟨rfl, rfl⟩
    (conv => arg 3; whnf); repeat (first | ((with_reducible refine sat_brT ?_ ?_); rfl; conv => arg 3; whnf) | ((with_reducible refine sat_brF ?_ ?_); rfl; conv => arg 3; whnf) | ((with_reducible refine sat_eqv ?_ ?_); rfl; conv => arg 3; whnf))
    exact sat_ret (.inr ⟨h, rfl, rfl⟩)
end Stk
