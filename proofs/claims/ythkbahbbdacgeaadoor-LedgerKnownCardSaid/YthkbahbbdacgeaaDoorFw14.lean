/- The framework, part 14: what is built of parts. -/
import Derived.Test.YthkbahbbdacgeaaDoorFw13
namespace Stk
open Go
variable {X : Cx} {Q : Ex → Fr → Hp → Prop} {e : Env} {H : Hp} {w : World}

theorem fold_put (off : Nat) : ∀ (vs : List Value) (i : Nat) (cells : Array Value), off + i + vs.length ≤ cells.size →
    ((vs.zipIdx i).foldl (fun cs (p : Value × Nat) => cs.setIfInBounds (off + p.2) p.1) cells) = (over cells.toList (off + i) vs).toArray
  | [], i, cells, _ => by simp [over]
  | v :: r, i, cells, h => by
    simp only [List.length_cons] at h
    rw [List.zipIdx_cons, List.foldl_cons, fold_put off r (i + 1) _ (by simp; omega)]
    congr 1
    have := over_step cells.toList (off + i) v r (by simp; omega)
    simp only [Array.toList_setIfInBounds]
    exact this

def pcsV (fr : Fr) : List Pc → List AV
  | [] => []
  | .op x _ :: ps => x.at fr :: pcsV fr ps
  | .z x :: ps => .t x :: pcsV fr ps
def pcsOK (fr : Fr) : List Pc → Prop
  | [] => True
  | .op x n :: ps => (x.at fr).solid = true ∧ (x.at fr).sz = n ∧ pcsOK fr ps
  | .z _ :: ps => pcsOK fr ps
theorem sat_srcsK {fr : Fr} : ∀ {ps : List Pc} {k : List AV → T}, sat X Q (srcsK fr ps k) → pcsOK fr ps ∧ sat X Q (k (pcsV fr ps))
  | [], k, h => ⟨trivial, h⟩
  | .op x n :: ps, k, h => by
    simp only [srcsK, evK_eq] at h
    split at h
    · rename_i h1 h2
      obtain ⟨h3, h4⟩ := sat_srcsK h
      exact ⟨⟨h1, beq_eq h2, h3⟩, h4⟩
    · exact h.elim
  | .z x :: ps, k, h => by
    simp only [srcsK] at h
    obtain ⟨h3, h4⟩ := sat_srcsK h
    exact ⟨h3, h4⟩

def chkPcs (G : Gl) (place : Nat → Option (Nat × Nat)) : Nat → List Pc → List (Nat × Operand) → List Value → Bool
  | _, [], [], [] => true
  | off, .z x :: ps, parts, cs => match chkT x cs with
    | some rest => chkPcs G place (off + x.sz) ps parts rest
    | none => false
  | off, .op x n :: ps, (i, y) :: parts, cs => chkOpd G x y && (match place i with
    | some (o, m) => Nat.beq o off && Nat.beq m n
    | none => false) && Nat.ble n cs.length && chkPcs G place (off + n) ps parts (cs.drop n)
  | _, _, _, _ => false

theorem fill_sound {fr : Fr} {a : Act} (hr : Rel X.G e H w) (hf : FrR X.N e fr a) {place : Nat → Option (Nat × Nat)} : ∀ {ps : List Pc} {parts : List (Nat × Operand)} {cs pre : List Value} {off : Nat},
    chkPcs X.G place off ps parts cs = true → pcsOK fr ps → pre.length = off →
    ∃ out, Instr.fill place (pre ++ cs).toArray (parts.map fun p => (p.1, a.eval p.2)) = some (pre ++ out).toArray ∧ AV.rels e (pcsV fr ps) out
  | [], [], [], pre, off, _, _, _ => ⟨[], by simp [Instr.fill], by simp [pcsV, AV.rels]⟩
  | [], [], _ :: _, pre, off, h, _, _ => by simp [chkPcs] at h
  | [], _ :: _, _, pre, off, h, _, _ => by simp [chkPcs] at h
  | .z x :: ps, parts, cs, pre, off, h, hk, hp => by
    simp only [chkPcs] at h
    split at h
    · rename_i rest hc
      obtain ⟨c, rfl, hrx⟩ := chkT_rel (m := e.ro) hc
      have hl := Tr.rel_length hrx
      obtain ⟨out, h1, h2⟩ := fill_sound (pre := pre ++ c) hr hf h hk (by simp [hp, hl])
      refine ⟨c ++ out, ?_, ?_⟩
      · simpa using h1
      · simp only [pcsV, AV.rels]; exact ⟨c, out, rfl, by simpa only [AV.rel, AV.leaf] using hrx, h2⟩
    · cases h
  | .op x n :: ps, [], cs, pre, off, h, _, _ => by cases cs <;> simp [chkPcs] at h
  | .op x n :: ps, (i, y) :: parts, cs, pre, off, h, hk, hp => by
    simp only [chkPcs, Bool.and_eq_true] at h
    obtain ⟨⟨⟨h1, h2⟩, h3⟩, h4⟩ := h
    obtain ⟨k1, k2, k3⟩ := hk
    have hxv := chkOpd_val hr hf h1
    have hxr := AV.rel_of_val hxv (by intro hu; rw [hu] at k1; cases k1) (by intro xs hu; rw [hu] at k1; cases k1)
    have hl := (AV.rel_length hxr).1
    rw [k2] at hl
    have hn : n ≤ cs.length := Nat.le_of_ble_eq_true h3
    split at h2
    · rename_i o m hpl
      simp only [Bool.and_eq_true] at h2
      obtain ⟨rfl⟩ := beq_eq h2.1
      obtain ⟨rfl⟩ := beq_eq h2.2
      obtain ⟨out, h5, h6⟩ := fill_sound (pre := pre ++ (a.eval y).cells.toList) hr hf h4 k3 (by simp [hp]; simpa using hl)
      refine ⟨(a.eval y).cells.toList ++ out, ?_, ?_⟩
      · simp only [List.map_cons, Instr.fill, hpl]
        have hsz : (a.eval y).cells.size = n := by simpa using hl
        rw [if_neg (by
          simp only [hsz, List.size_toArray, List.length_append, hp]
          simp; omega)]
        have hfold : Array.foldl (fun cs (x : Value × Nat) => cs.setIfInBounds (off + x.2) x.1) (pre ++ cs).toArray (a.eval y).cells.zipIdx = (pre ++ (a.eval y).cells.toList ++ cs.drop n).toArray := by
          rw [← Array.foldl_toList, Array.toList_zipIdx]
          rw [fold_put off _ 0 _ (by simp [hp, hsz]; exact hn)]
          have hm : (cs.take n).length = n := by rw [List.length_take, Nat.min_eq_left hn]
          have := over_pre (pre := pre) (mid := cs.take n) (post := cs.drop n) (mid' := (a.eval y).cells.toList) (by rw [hm]; exact hl)
          rw [List.take_append_drop, hp] at this
          simp only [Nat.add_zero]
          rw [this, List.append_assoc]
        rw [hfold]
        simpa using h5
      · simp only [pcsV, AV.rels]; exact ⟨_, out, rfl, hxr, h6⟩
    · cases h2

/-! ### Structs and arrays -/
def zeroCellsOf (P : Program) (t : TypeId) : Option (List Value) :=
  match P.info? t with
  | some i => match i.zero with
    | some v => some v.cells.toList
    | none => none
  | none => none
theorem zeroCellsOf_run {P : Program} {t : TypeId} {zs : List Value} (h : zeroCellsOf P t = some zs) : ∃ v, zs = v.cells.toList ∧ ∀ w, (zeroValue t).run P w = .ok v w := by
  unfold zeroCellsOf at h
  split at h
  · rename_i i hi
    split at h
    · rename_i v hv
      exact ⟨v, (Option.some.inj h).symm, fun w => by simp [zeroValue, typeInfo, program, bind, Sem.bind, Sem.run, hi, pure, hv]⟩
    · cases h
  · cases h

def placeS (P : Program) (fs : List Field) (i : Nat) : Option (Nat × Nat) :=
  match fs[i]? with
  | some f => match P.info? f.type with
    | some inf => some (f.offset, inf.size)
    | none => none
  | none => none
def hasInfo (P : Program) (f : Field) : Bool := (P.info? f.type).isSome

theorem mapM_places {P : Program} (w : World) : ∀ (fs : List Field), fs.all (hasInfo P) = true →
    ∃ ps : List (Nat × Nat), ((fs.mapM fun f => do pure (f.offset, ← sizeOf f.type)) : Sem (List (Nat × Nat))).run P w = .ok ps w ∧ ∀ i, ps[i]? = placeS P fs i
  | [], _ => ⟨[], rfl, fun i => by simp [placeS]⟩
  | f :: fs, h => by
    simp only [List.all_cons, Bool.and_eq_true] at h
    obtain ⟨ps, h1, h2⟩ := mapM_places w fs h.2
    obtain ⟨inf, hi⟩ := Option.isSome_iff_exists.1 h.1
    have hs := run_sizeOf (P := P) (t := f.type) (n := inf.size) (by rw [hi]; rfl) w
    refine ⟨(f.offset, inf.size) :: ps, ?_, ?_⟩
    · rw [List.mapM_cons]
      simp only [bind_assoc, pure_bind, Sem.run_bind, hs, h1, Result.andThen, Sem.run_pure]
    · intro i
      cases i with
      | zero => simp [placeS, hi]
      | succ i => simpa [placeS] using h2 i

theorem op_mkS {t : TypeId} {ps : List Pc} {parts : Array (Nat × Operand)} {fs : Array Field} {zs : List Value} (ht : X.P.underlying t = some (.struct fs)) (hi : fs.toList.all (hasInfo X.P) = true) (hz : zeroCellsOf X.P t = some zs)
    (hc : chkPcs X.G (placeS X.P fs.toList) 0 ps parts.toList zs = true) : OpS0 X (.build t parts) (.mkS ps) := by
  intro o ho e H w fr a Q k hr hf hs
  simp only [opT] at hs
  obtain ⟨hok, hs⟩ := sat_srcsK hs
  rw [mkAgg_eq] at hs
  obtain ⟨v, rfl, hzr⟩ := zeroCellsOf_run hz
  obtain ⟨out, h1, h2⟩ := fill_sound (pre := []) hr hf hc hok rfl
  obtain ⟨pl, h3, h4⟩ := mapM_places (P := X.P) w fs.toList hi
  have hm : (fs.mapM fun f => (do pure (f.offset, ← sizeOf f.type) : Sem (Nat × Nat))).run X.P w = .ok pl.toArray w := by
    rw [Array.mapM_eq_mapM_toList]
    simp only [Sem.run_map, h3]
    rfl
  have : (execOp a.eval o).run X.P w = .ok (.value (.agg out.toArray)) w := by
    simp only [execOp, ho]
    refine run_v ?_
    have hpl : (fun i => pl[i]?) = placeS X.P fs.toList := by funext i; rw [h4]
    have h5 : Instr.fill (fun i => pl[i]?) v.cells (List.map (fun x => (x.1, a.eval x.2)) parts.toList) = some out.toArray := by
      rw [hpl]; simpa using h1
    simp only [Instr.build, Sem.run_bind, hzr, Result.andThen, run_under ht, hm]
    simp only [Array.toList_map, List.getElem?_toArray, h5, Sem.run_pure]
  rw [this]
  refine Out.same hr ?_ hs
  have := AV.val_of_rel (mkAggV_rel.2 h2)
  rcases this with ⟨_, h⟩ | ⟨h, _⟩
  · exact h
  · rw [mkAggV_isAgg] at h; cases h

theorem op_mkA {t el : TypeId} {n m sz : Nat} {ps : List Pc} {parts : Array (Nat × Operand)} {zs : List Value} (ht : X.P.underlying t = some (.array m el)) (hi : (X.P.info? el).map (·.size) = some sz) (hz : zeroCellsOf X.P t = some zs)
    (hc : chkPcs X.G (fun i => some (i * sz, sz)) 0 ps parts.toList zs = true) : OpS0 X (.build t parts) (.mkA n ps) := by
  intro o ho e H w fr a Q k hr hf hs
  simp only [opT] at hs
  obtain ⟨hok, hs⟩ := sat_srcsK hs
  rw [allTr_eq] at hs
  obtain ⟨v, rfl, hzr⟩ := zeroCellsOf_run hz
  obtain ⟨out, h1, h2⟩ := fill_sound (pre := []) hr hf hc hok rfl
  split at hs
  · rename_i ys hys
    have hy := mkAggV_go hys
    split at hs
    · rename_i g1 g2
      have hn := beq_eq g1
      have : (execOp a.eval o).run X.P w = .ok (.value (.agg out.toArray)) w := by
        simp only [execOp, ho]
        refine run_v ?_
        have h5 : Instr.fill (fun i => some (i * sz, sz)) v.cells (List.map (fun x => (x.1, a.eval x.2)) parts.toList) = some out.toArray := by simpa using h1
        simp only [Instr.build, Sem.run_bind, hzr, Result.andThen, run_under ht, run_sizeOf hi]
        simp only [Array.toList_map, h5, Sem.run_pure]
      rw [this]
      refine Out.same hr ?_ hs
      rw [hy] at h2
      have h3 := AV.rels_toAVs.1 h2
      simp only [AV.val, Tr.isAgg, Tr.rel]
      refine ⟨_, rfl, hn, ?_⟩
      have hna : ∀ y ∈ ys, y.isAgg = false := by
        intro y hy'
        rw [List.any_eq_false] at g2
        simpa using g2 y hy'
      have : ∀ (ys : List Tr) (cs : List Value), Tr.rels e.ro ys cs → (∀ y ∈ ys, y.isAgg = false) → Tr.ones e.ro ys cs := by
        intro ys
        induction ys with
        | nil => intro cs h _; exact h
        | cons y r ih =>
          intro cs h hna
          simp only [Tr.rels] at h
          obtain ⟨c, b, rfl, h1, h2⟩ := h
          have hya := hna y (by simp)
          have hsz : y.sz = 1 := by cases y <;> first | rfl | simp [Tr.isAgg] at hya
          have hl := Tr.rel_length h1
          rw [hsz] at hl
          match c, hl, h1 with
          | [c], _, h1 => simp only [Tr.ones]; exact ⟨c, b, rfl, hya, h1, ih b h2 fun z hz => hna z (by simp [hz])⟩
      simpa using this ys out h3 hna
    · exact hs.elim
  · exact hs.elim

def repCells (n : Nat) (zs : List Value) : List Value :=
  match n with
  | 0 => []
  | n + 1 => zs ++ repCells n zs
theorem repCells_eq (zs : Array Value) : ∀ n, (Builtin.zeroCells zs n).toList = repCells n zs.toList
  | 0 => by simp [Builtin.zeroCells, repCells]
  | n + 1 => by rw [zeroCells_succ, repCells, repCells_eq zs n]
theorem repCells_length (zs : List Value) : ∀ n, (repCells n zs).length = n * zs.length
  | 0 => by simp [repCells]
  | n + 1 => by rw [repCells, List.length_append, repCells_length zs n, Nat.succ_mul, Nat.add_comm]

theorem run_newRow {P : Program} (t : TypeId) (cs : Array Value) (w : World) : (newRow t cs).run P w = .ok ⟨w.heap.size, 0, none⟩ (w.alloc (.cells cs t)) := by
  simp [newRow, newObj, bind, Sem.bind, Sem.run, pure]

theorem op_mkSl {t el : TypeId} {len sz : Nat} {ps : List Pc} {parts : Array (Nat × Operand)} {zs : List Value} (ht : X.P.underlying t = some (.slice el)) (hi : (X.P.info? el).map (·.size) = some sz) (hz : zeroCellsOf X.P el = some zs)
    (hzl : zs.length = sz) (hpl : ps.length = len) (hmx : len * sz ≤ 2 ^ 24) (hc : chkPcs X.G (fun i => some (i * sz, sz)) 0 ps parts.toList (repCells len zs) = true) : OpS X (.buildSlice t len parts) (.mkSl sz ps) := by
  intro o ho e H w fr a Q k hr hf hs
  simp only [opT] at hs
  obtain ⟨hok, hs⟩ := sat_srcsK hs
  rw [litK_eq, allTr_eq] at hs
  obtain ⟨v, rfl, hzr⟩ := zeroCellsOf_run hz
  obtain ⟨out, h1, h2⟩ := fill_sound (pre := []) hr hf hc hok rfl
  have hvl : (pcsV fr ps).length = len := by
    rw [← hpl]
    have : ∀ ps : List Pc, (pcsV fr ps).length = ps.length := by
      intro ps
      induction ps with
      | nil => rfl
      | cons p r ih => cases p <;> simp [pcsV, ih]
    exact this ps
  have hzs : v.cells.size = sz := by simpa using hzl
  have hfl : ∀ (place : Nat → Option (Nat × Nat)) (vs : List (Nat × Value)) (cs cs' : Array Value), Instr.fill place cs vs = some cs' → cs'.size = cs.size := by
    intro place vs
    induction vs with
    | nil => intro cs cs' h; simp only [Instr.fill, Option.some.injEq] at h; rw [h]
    | cons p r ih =>
      intro cs cs' h
      obtain ⟨i, x⟩ := p
      simp only [Instr.fill] at h
      split at h
      · cases h
      · split at h
        · cases h
        · have := ih _ _ h
          rw [this, ← Array.foldl_toList]
          generalize x.cells.zipIdx.toList = l
          induction l generalizing cs with
          | nil => rfl
          | cons q l ihl => 
            rename_i off size _ _
            have : ∀ (l : List (Value × Nat)) (cs : Array Value), (l.foldl (fun cs (x : Value × Nat) => cs.setIfInBounds (off + x.2) x.1) cs).size = cs.size := by
              intro l
              induction l with
              | nil => intro cs; rfl
              | cons q l ih2 => intro cs; rw [List.foldl_cons, ih2]; simp
            exact this _ _
  have hol : out.length = len * sz := by
    have := hfl _ _ _ _ h1
    simp [repCells_length] at this
    rw [this, hzs]
  have hrun : (execOp a.eval o).run X.P w = .ok (.value (.slice (some ⟨w.heap.size, 0, none⟩) len len)) (w.alloc (.cells out.toArray el)) := by
    simp only [execOp, ho]
    refine run_v ?_
    have h5 : Instr.fill (fun i => some (i * sz, sz)) (Builtin.zeroCells v.cells len) (List.map (fun x => (x.1, a.eval x.2)) parts.toList) = some out.toArray := by
      have : (Builtin.zeroCells v.cells len) = (repCells len v.cells.toList).toArray := by
        apply Array.ext'; rw [repCells_eq]
      rw [this]; simpa using h1
    simp only [Instr.buildSlice, Sem.run_bind, run_under ht, Result.andThen, run_sizeOf hi]
    by_cases h0 : len * sz = 0
    · have h6 : Instr.fill (fun i => some (i * sz, sz)) #[] (List.map (fun x => (x.1, a.eval x.2)) parts.toList) = some out.toArray := by
        rw [← h5]; congr 1; simp [Builtin.zeroCells, hzs, h0]
      have hr0 : ∀ f : Nat → Value, Array.map f (Array.range 0) = #[] := fun f => by simp
      simp [h0, hr0, h6, Result.andThen, run_newRow]
    · have h6 : Instr.fill (fun i => some (i * sz, sz)) ((Array.range (len * sz)).map (v.cells[· % v.cells.size]!)) (List.map (fun x => (x.1, a.eval x.2)) parts.toList) = some out.toArray := by
        rw [← h5]; simp only [Builtin.zeroCells, hzs]
      have h0' : ¬ (len = 0 ∨ sz = 0) := fun hh => h0 (by rcases hh with rfl | rfl <;> simp)
      have hif' : ¬ (2 ^ 24 < len * sz) := by omega
      simp only [gt_iff_lt, hif', h0, if_false, Sem.run_bind, hzr, Result.andThen, Sem.run_pure, h6, Array.toList_map, run_newRow]
  rw [hrun]
  split at hs
  · rename_i ys hys
    have hy := mkAggV_go hys
    split at hs
    · rename_i hall
      rw [newK_eq] at hs
      rw [hy] at h2
      have hrow := rels_row (AV.rels_toAVs.1 h2) hall
      have hyl : ys.length = len := by
        rw [← hvl, hy]
        have : ∀ ys : List Tr, (toAVs ys).length = ys.length := by
          intro ys
          induction ys with
          | nil => rfl
          | cons y r ih => simp [toAVs, ih]
        exact (this ys).symm
      have hst := Step.new (o := .row sz ys) (ob := .cells out.toArray el) (esz := sz) (cap := len) (n := some ys.length) hr
        ⟨rfl, rfl, _, _, (0, 0), rfl, ⟨Nat.le_refl _, fun j _ => by simp⟩, by simpa using hol, by omega, fun c hc => Tr.row_one hrow c (by simpa using hc), out, [], by simp, hrow⟩
      refine ⟨_, _, _, _, _, .inl rfl, ?_, hst, hs⟩
      simp only [AV.val, AV.leaf]
      exact .inr ⟨_, _, _, _, some ⟨w.heap.size, 0, none⟩, len, e.bind_same _ _, by rw [hvl], by rw [hvl]; exact Nat.le_refl _, fun n' hn' => by obtain rfl := Option.some.inj hn'; simp [hvl, hyl], by simp [hvl], .inr (by simp)⟩
    · exact hs.elim
  · rw [newK_eq] at hs
    have hst := Step.new (o := .var (.agg (pcsV fr ps))) (ob := .cells out.toArray el) (esz := 1) (cap := 0) (n := none) hr
      ⟨rfl, rfl, _, _, (0, 0), rfl, by simpa only [AV.rel] using h2, ⟨Nat.le_refl _, fun j _ => by simp⟩⟩
    refine ⟨_, _, _, _, _, .inl rfl, ?_, hst, hs⟩
    simp only [AV.val, AV.leaf]
    exact .inr ⟨_, _, _, _, some ⟨w.heap.size, 0, none⟩, len, e.bind_same _ _, by rw [hvl], by rw [hvl]; exact Nat.le_refl _, fun n' hn' => by simp at hn', by simp [hvl], .inr (by simp)⟩
theorem op_mkSlF {t el : TypeId} {len sz : Nat} {ps : List Pc} {parts : Array (Nat × Operand)} {zs : List Value} (ht : X.P.underlying t = some (.slice el)) (hi : (X.P.info? el).map (·.size) = some sz) (hz : zeroCellsOf X.P el = some zs)
    (hzl : zs.length = sz) (hpl : ps.length = len) (hmx : len * sz ≤ 2 ^ 24) (hc : chkPcs X.G (fun i => some (i * sz, sz)) 0 ps parts.toList (repCells len zs) = true) : OpS X (.buildSlice t len parts) (.mkSlF sz ps) := by
  intro o ho e H w fr a Q k hr hf hs
  simp only [opT] at hs
  obtain ⟨hok, hs⟩ := sat_srcsK hs
  rw [litK_eq] at hs
  obtain ⟨v, rfl, hzr⟩ := zeroCellsOf_run hz
  obtain ⟨out, h1, h2⟩ := fill_sound (pre := []) hr hf hc hok rfl
  have hvl : (pcsV fr ps).length = len := by
    rw [← hpl]
    have : ∀ ps : List Pc, (pcsV fr ps).length = ps.length := by
      intro ps
      induction ps with
      | nil => rfl
      | cons p r ih => cases p <;> simp [pcsV, ih]
    exact this ps
  have hzs : v.cells.size = sz := by simpa using hzl
  have hfl : ∀ (place : Nat → Option (Nat × Nat)) (vs : List (Nat × Value)) (cs cs' : Array Value), Instr.fill place cs vs = some cs' → cs'.size = cs.size := by
    intro place vs
    induction vs with
    | nil => intro cs cs' h; simp only [Instr.fill, Option.some.injEq] at h; rw [h]
    | cons p r ih =>
      intro cs cs' h
      obtain ⟨i, x⟩ := p
      simp only [Instr.fill] at h
      split at h
      · cases h
      · split at h
        · cases h
        · have := ih _ _ h
          rw [this, ← Array.foldl_toList]
          generalize x.cells.zipIdx.toList = l
          induction l generalizing cs with
          | nil => rfl
          | cons q l ihl => 
            rename_i off size _ _
            have : ∀ (l : List (Value × Nat)) (cs : Array Value), (l.foldl (fun cs (x : Value × Nat) => cs.setIfInBounds (off + x.2) x.1) cs).size = cs.size := by
              intro l
              induction l with
              | nil => intro cs; rfl
              | cons q l ih2 => intro cs; rw [List.foldl_cons, ih2]; simp
            exact this _ _
  have hol : out.length = len * sz := by
    have := hfl _ _ _ _ h1
    simp [repCells_length] at this
    rw [this, hzs]
  have hrun : (execOp a.eval o).run X.P w = .ok (.value (.slice (some ⟨w.heap.size, 0, none⟩) len len)) (w.alloc (.cells out.toArray el)) := by
    simp only [execOp, ho]
    refine run_v ?_
    have h5 : Instr.fill (fun i => some (i * sz, sz)) (Builtin.zeroCells v.cells len) (List.map (fun x => (x.1, a.eval x.2)) parts.toList) = some out.toArray := by
      have : (Builtin.zeroCells v.cells len) = (repCells len v.cells.toList).toArray := by
        apply Array.ext'; rw [repCells_eq]
      rw [this]; simpa using h1
    simp only [Instr.buildSlice, Sem.run_bind, run_under ht, Result.andThen, run_sizeOf hi]
    by_cases h0 : len * sz = 0
    · have h6 : Instr.fill (fun i => some (i * sz, sz)) #[] (List.map (fun x => (x.1, a.eval x.2)) parts.toList) = some out.toArray := by
        rw [← h5]; congr 1; simp [Builtin.zeroCells, hzs, h0]
      have hr0 : ∀ f : Nat → Value, Array.map f (Array.range 0) = #[] := fun f => by simp
      simp [h0, hr0, h6, Result.andThen, run_newRow]
    · have h6 : Instr.fill (fun i => some (i * sz, sz)) ((Array.range (len * sz)).map (v.cells[· % v.cells.size]!)) (List.map (fun x => (x.1, a.eval x.2)) parts.toList) = some out.toArray := by
        rw [← h5]; simp only [Builtin.zeroCells, hzs]
      have h0' : ¬ (len = 0 ∨ sz = 0) := fun hh => h0 (by rcases hh with rfl | rfl <;> simp)
      have hif' : ¬ (2 ^ 24 < len * sz) := by omega
      simp only [gt_iff_lt, hif', h0, if_false, Sem.run_bind, hzr, Result.andThen, Sem.run_pure, h6, Array.toList_map, run_newRow]
  rw [hrun]
  obtain ⟨ys, e1, H1, hs, s1, hrs, hyl⟩ := frzs_sound hr h2 hs
  split at hs
  · rename_i hall
    rw [newK_eq] at hs
    have hrow := rels_row hrs hall
    have hyl : ys.length = len := by rw [hyl, hvl]
    have hst := Step.new (o := .row sz ys) (ob := .cells out.toArray el) (esz := sz) (cap := len) (n := some ys.length) s1.rel
      ⟨rfl, rfl, _, _, (0, 0), rfl, ⟨Nat.le_refl _, fun j _ => by simp⟩, by simpa using hol, by omega, fun c hc => Tr.row_one hrow c (by simpa using hc), out, [], by simp, hrow⟩
    refine ⟨_, _, _, _, _, .inl rfl, ?_, s1.trans hst, hs⟩
    simp only [AV.val, AV.leaf]
    exact .inr ⟨_, _, _, _, some ⟨w.heap.size, 0, none⟩, len, e1.bind_same _ _, by rw [hvl], by rw [hvl]; exact Nat.le_refl _, fun n' hn' => by obtain rfl := Option.some.inj hn'; simp [hvl, hyl], by simp [hvl], .inr (by simp)⟩
  · exact hs.elim
end Stk
