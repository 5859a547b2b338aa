/- the evaluator is sound: maps, texts, appends, all operations together. -/
import Derived.Test.YthakkhefhfcggaaGreatDoorEvB
import Derived.Laws.MakeOwn
namespace Go.Ev
variable {σ : Nat → Value} {φ φ' : Phi} {P : Program}
section
variable {h : H} {w : World} {tm : T V} {ρ : Operand → Value}

theorem EL.get : ∀ {l : List (V × V × Nat)} {k : List MapEntry}, EL σ φ l k → ∀ (i : Nat) (e : V × V × Nat), l[i]? = some e → ∃ m, k[i]? = some m ∧ ER σ φ e m
  | _, _, .nil, i, e, h => by simp at h
  | _, _, .cons e m l k h hl, 0, e', he => by simp at he; subst he; exact ⟨m, by simp, h⟩
  | _, _, .cons e m l k h hl, i + 1, e', he => by
    obtain ⟨m', h1, h2⟩ := EL.get hl i e' (by simpa using he)
    exact ⟨m', by simpa using h1, h2⟩

theorem EL.append : ∀ {l : List (V × V × Nat)} {k : List MapEntry} {l' : List (V × V × Nat)} {k' : List MapEntry}, EL σ φ l k → EL σ φ l' k' → EL σ φ (l ++ l') (k ++ k')
  | _, _, _, _, .nil, h => h
  | _, _, _, _, .cons e m l k h hl, q => .cons _ _ _ _ h (EL.append hl q)

theorem EL.set {k v : V} {uk uv : Value} (hk : VR σ φ k uk) (hv : VR σ φ v uv) : ∀ {l : List (V × V × Nat)} {m : List MapEntry} (i : Nat), EL σ φ l m → EL σ φ (setNth l i k v) (m.modify i fun e => { e with key := uk, val := uv })
  | _, _, i, .nil => by simp [setNth]; exact .nil
  | _, _, 0, .cons e m l q h hl => by simp [setNth]; exact .cons _ _ _ _ ⟨hk, hv, h.2.2⟩ hl
  | _, _, i + 1, .cons e m l q h hl => by simp [setNth]; exact .cons _ _ _ _ h (EL.set hk hv i hl)

theorem run_setMap {b : Nat} {es : Array MapEntry} {c : Nat} {o : Obj} (hb : w.heap[b]? = some (.map es c)) : (setObj b o).run P w = .ok () { w with heap := w.heap.setIfInBounds b o } := by
  simp [setObj, Sem.run, hb]

theorem run_stays (old new : Value) : ∃ key w1, (Instr.keyThatStays old new).run P w = .ok key w1 ∧ w1.heap = w.heap ∧ w1.os = w.os ∧ w1.tape = w.tape ∧ w1.output = w.output ∧ (key = new ∨ key = old) := by
  unfold Instr.keyThatStays
  by_cases hs : Instr.sameBits 10000 old new = true
  · exact ⟨new, w, by rw [if_pos hs]; rfl, rfl, rfl, rfl, rfl, .inl rfl⟩
  · rw [if_neg hs]
    simp only [Sem.run_bind, run_choose, Question.forced]
    refine ⟨_, _, rfl, rfl, rfl, rfl, rfl, ?_⟩
    split
    · exact .inl rfl
    · exact .inr rfl

theorem update_ok {t : TypeId} {m k v : V} {um uk uv : Value} {h' : H} (hr : HR P σ φ h w) (hm : VR σ φ m um) (hk : VR σ φ k uk) (hv : VR σ φ v uv) (he : updateV P h t m k v = some h') :
    ∃ w', (Instr.mapUpdate t um uk uv).run P w = .ok () w' ∧ G φ h w φ h' w' ∧ HR P σ φ h' w' := by
  simp only [updateV, Option.bind_eq_some_iff, grd_some, mapT_some, map?_some] at he
  obtain ⟨ke, hke, hkey, x, rfl, e, hx, fr, hf, he⟩ := he
  obtain ⟨d, hd⟩ := keyOk_und hkey
  obtain ⟨l, hl, rfl⟩ := hm.map_inv
  obtain ⟨es', hb, hel⟩ := hr.map hx hl
  have hck := keyOk_ok (w := w) 8 false hkey hk 10000 (by omega)
  obtain ⟨r', hfk, hfr⟩ := findKey_ok (w := w) hd hk hf hel
  have hget := H.map?_some.1 hx
  cases fr with
  | none =>
    cases he
    cases r' with
    | some q => exact hfr.elim
    | none =>
      obtain ⟨a, b⟩ := hr_set (o' := .map (e.1 ++ [(k, v, e.2)]) (e.2 + 1)) (ob' := .map (es'.push { key := uk, val := uv, born := e.2 }) (e.2 + 1)) hr hget hl rfl rfl
        ⟨_, rfl, by simpa using hel.append (.cons (k, v, e.2) { key := uk, val := uv, born := e.2 } _ _ ⟨hk, hv, rfl⟩ .nil)⟩
      exact ⟨_, by simp [Instr.mapUpdate, r_und hke, run_getMap hb, hck, hfk, run_setMap hb], b, a⟩
  | some p =>
    obtain ⟨i, v0⟩ := p
    cases r' with
    | none => exact hfr.elim
    | some q =>
      obtain ⟨j, u0⟩ := q
      obtain ⟨rfl, _⟩ := hfr
      simp only [Option.bind_eq_some_iff, grd_some, Option.some.injEq] at he
      obtain ⟨old, hold, hoeq, rfl⟩ := he
      have hoeq := V.eqb_eq hoeq
      obtain ⟨mo, hmo, hmr⟩ := hel.get i old hold
      have hmo' : es'[i]? = some mo := by simpa using hmo
      obtain ⟨key, w1, hst, g1, g2, g3, g4, hkey'⟩ := run_stays (P := P) (w := w) mo.key uk
      have hkv : VR σ φ k key := by
        rcases hkey' with rfl | rfl
        · exact hk
        · rw [← hoeq]; exact hmr.1
      have hb1 : w1.heap[l.blk]? = some (.map es' e.2) := by rw [g1]; exact hb
      obtain ⟨a, b⟩ := hr_set (o' := .map (setNth e.1 i k v) e.2) (ob' := .map (es'.modify i fun e => { e with key, val := uv }) e.2) (hr.drew g1) hget hl rfl rfl
        ⟨_, rfl, by have := EL.set hkv hv i hel; simpa using this⟩
      exact ⟨_, by simp [Instr.mapUpdate, r_und hke, run_getMap hb, hck, hfk, hmo', hst, run_setMap hb1], (G.drew g1 g2 g3 g4).trans b, a⟩

theorem op_mapUpdate {t : TypeId} {m k x : Operand} {r : V × H} (hr : HR P σ φ h w) (hρ : RR σ φ tm ρ) {o : Oper} (ho : o.op = .mapUpdate t m k x) (he : evOp P tm h o.op = some r) :
    OpOk P σ φ h w (execOp ρ o) r.1 r.2 := by
  rw [ho] at he
  simp only [evOp, evUpd, Option.bind_eq_some_iff] at he
  obtain ⟨mv, hm, kv, hk, v, hv, h', hu, he⟩ := he
  cases he
  obtain ⟨w', h1, h2, h3⟩ := update_ok hr (hρ _ _ hm) (hρ _ _ hk) (hρ _ _ hv) hu
  exact ⟨φ, undef, w', .inr ⟨by simp [execOp, ho, h1], rfl⟩, h2, h3, .tup _ _ .nil⟩

theorem op_insert {t : TypeId} {m k x : Operand} {r : V × H} (hr : HR P σ φ h w) (hρ : RR σ φ tm ρ) {o : Oper} (ho : o.op = .insert t m k x) (he : evOp P tm h o.op = some r) :
    OpOk P σ φ h w (execOp ρ o) r.1 r.2 := by
  rw [ho] at he
  simp only [evOp, evUpd, Option.bind_eq_some_iff] at he
  obtain ⟨mv, hm, kv, hk, v, hv, h', hu, he⟩ := he
  cases he
  obtain ⟨w', h1, h2, h3⟩ := update_ok hr (hρ _ _ hm) (hρ _ _ hk) (hρ _ _ hv) hu
  exact ⟨φ, undef, w', .inr ⟨by simp [execOp, ho, h1], rfl⟩, h2, h3, .tup _ _ .nil⟩

-- composites

theorem put_get {α : Type} (cs vs : List α) (off : Nat) (hle : off + vs.length ≤ cs.length) (i : Nat) :
    (cs.take off ++ (vs ++ cs.drop (off + vs.length)))[i]? = if i < off then cs[i]? else if i < off + vs.length then vs[i - off]? else cs[i]? := by
  rw [List.getElem?_append]
  simp only [List.length_take, Nat.min_eq_left (show off ≤ cs.length by omega)]
  split
  · rw [List.getElem?_take]; simp [*]
  · rw [List.getElem?_append]
    split
    · rw [if_pos (by omega)]
    · rw [if_neg (by omega), List.getElem?_drop]; congr 1; omega

theorem fold_put (off : Nat) : ∀ (l : List Value) (k : Nat) (c : Array Value), off + k + l.length ≤ c.size →
    ((l.zipIdx k).foldl (fun (cs : Array Value) (p : Value × Nat) => cs.setIfInBounds (off + p.2) p.1) c).size = c.size ∧
    ∀ i, ((l.zipIdx k).foldl (fun (cs : Array Value) (p : Value × Nat) => cs.setIfInBounds (off + p.2) p.1) c)[i]? = if off + k ≤ i ∧ i < off + k + l.length then l[i - (off + k)]? else c[i]?
  | [], k, c, _ => ⟨rfl, fun i => by simp; intro h1 h2; omega⟩
  | v :: l, k, c, hle => by
    simp only [List.zipIdx_cons, List.foldl_cons]
    obtain ⟨h1, h2⟩ := fold_put off l (k + 1) (c.setIfInBounds (off + k) v) (by simp at hle ⊢; omega)
    refine ⟨by rw [h1]; simp, fun i => ?_⟩
    rw [h2]
    simp only [List.length_cons] at hle ⊢
    by_cases hi : off + k ≤ i ∧ i < off + k + (l.length + 1)
    · rw [if_pos hi]
      by_cases he : i = off + k
      · subst he
        rw [if_neg (by omega)]
        simp [show off + k < c.size by omega]
      · rw [if_pos (by omega), show i - (off + k) = (i - (off + (k + 1))) + 1 by omega]
        simp
    · rw [if_neg hi, if_neg (by omega), Array.getElem?_setIfInBounds_ne (by omega)]

theorem fold_toList (off : Nat) (us c : Array Value) (hle : off + us.size ≤ c.size) :
    (us.zipIdx.foldl (fun cs (p : Value × Nat) => cs.setIfInBounds (off + p.2) p.1) c).toList = c.toList.take off ++ (us.toList ++ c.toList.drop (off + us.toList.length)) := by
  rw [← Array.foldl_toList, Array.toList_zipIdx]
  obtain ⟨h1, h2⟩ := fold_put off us.toList 0 c (by simpa using hle)
  apply List.ext_getElem?
  intro i
  rw [put_get _ _ _ (by simpa using hle), Array.getElem?_toList, h2 i]
  simp only [Nat.add_zero]
  by_cases h3 : i < off
  · rw [if_pos h3, if_neg (by omega), Array.getElem?_toList]
  · rw [if_neg h3]
    by_cases h4 : i < off + us.toList.length
    · rw [if_pos h4, if_pos (by omega)]
    · rw [if_neg h4, if_neg (by omega), Array.getElem?_toList]

theorem fill_ok (hσ : SymOk σ) (hρ : RR σ φ tm ρ) {place place' : Nat → Option (Nat × Nat)} (hp : ∀ i, place i = place' i) : ∀ {ps : List (Nat × Operand)} {pv : List (Nat × V)} {cs cs' : List V} {c : Array Value},
    pvals tm ps = some pv → fillV place cs pv = some cs' → VL σ φ cs c.toList → ∃ c', Instr.fill place' c (ps.map fun (i, x) => (i, ρ x)) = some c' ∧ VL σ φ cs' c'.toList
  | [], pv, cs, cs', c, h1, h2, h3 => by
    simp [pvals] at h1; subst h1
    simp [fillV] at h2; subst h2
    exact ⟨c, rfl, h3⟩
  | (i, x) :: ps, pv, cs, cs', c, h1, h2, h3 => by
    simp only [pvals, Option.bind_eq_some_iff] at h1
    obtain ⟨v, hv, vs, hvs, he⟩ := h1
    cases he
    simp only [fillV, Option.bind_eq_some_iff, grd_some, Bool.and_eq_true] at h2
    obtain ⟨p, hpl, ⟨hb, hle⟩, h2⟩ := h2
    have hb := Nat.eq_of_beq_eq_true hb
    have hle := Nat.le_of_ble_eq_true hle
    have hvl := (hρ _ _ hv).cells hσ
    have l1 := hvl.length
    have l3 := h3.length
    simp only [Array.length_toList] at l1 l3
    have hsz : p.1 + (ρ x).cells.size ≤ c.size := by omega
    have hnew : VL σ φ (splice cs p.1 v.cells) ((ρ x).cells.zipIdx.foldl (fun cs (q : Value × Nat) => cs.setIfInBounds (p.1 + q.2) q.1) c).toList := by
      rw [fold_toList _ _ _ hsz]
      unfold splice
      have e1 : v.cells.length = (ρ x).cells.toList.length := by simpa using l1
      rw [e1]
      exact (h3.take _).append (hvl.append (h3.drop _))
    obtain ⟨c', f1, f2⟩ := fill_ok hσ hρ hp hvs h2 hnew
    refine ⟨c', ?_, f2⟩
    simp only [List.map_cons, Instr.fill, ← hp i, hpl]
    have hn : ((ρ x).cells.size ≠ p.2 || p.1 + (ρ x).cells.size > c.size) = false := by
      have e1 : (ρ x).cells.size = p.2 := by omega
      simp [e1]; omega
    obtain ⟨off, size⟩ := p
    simp only at hn f1 ⊢
    rw [hn]
    exact f1

end
end Go.Ev

namespace Go.Ev
variable {σ : Nat → Value} {φ φ' : Phi} {P : Program}
section
variable {h : H} {w : World} {tm : T V} {ρ : Operand → Value}

theorem run_places (w : World) : ∀ {l : List Field} {pl : List (Nat × Nat)}, placesOf P l = some pl → (l.mapM (fun f => do pure (f.offset, ← sizeOf f.type)) : Sem (List (Nat × Nat))).run P w = .ok pl w
  | [], pl, h => by simp [placesOf] at h; subst h; simp
  | f :: l, pl, h => by
    simp only [placesOf, Option.bind_eq_some_iff] at h
    obtain ⟨s, hs, r, hr, he⟩ := h
    cases he
    simp only [List.mapM_cons, Sem.run_bind, r_size hs, Result.andThen_ok, Sem.run_pure, run_places w hr]

theorem op_build (hσ : SymOk σ) {t : TypeId} {ps : Array (Nat × Operand)} {r : V × H} (hr : HR P σ φ h w) (hρ : RR σ φ tm ρ) {o : Oper} (ho : o.op = .build t ps) (he : evOp P tm h o.op = some r) :
    OpOk P σ φ h w (execOp ρ o) r.1 r.2 := by
  rw [ho] at he
  simp only [evOp, evBuild, Option.bind_eq_some_iff] at he
  obtain ⟨z, hz, pv, hpv, he⟩ := he
  obtain ⟨u, hu, hzr⟩ := r_zero (σ := σ) (φ := φ) hz
  have hcl := hu.cells hσ
  split at he
  · rename_i fs hund
    simp only [Option.bind_eq_some_iff, Option.some.injEq] at he
    obtain ⟨pl, hpl, cs, hcs, rfl⟩ := he
    obtain ⟨c', hf, hvl⟩ := fill_ok hσ hρ (place' := (pl.toArray[·]?)) (fun i => by simp) hpv hcs hcl
    have hm : (fs.mapM (fun f => do pure (f.offset, ← sizeOf f.type)) : Sem (Array (Nat × Nat))).run P w = .ok pl.toArray w := by
      rw [Array.mapM_eq_mapM_toList]
      simp only [Sem.run_map, run_places w hpl, Result.andThen_ok]
    refine .same hr (u := .agg c') ?_ (.agg _ _ hvl)
    simp only [execOp, ho, Instr.build, Sem.run_bind, hzr, Result.andThen_ok, r_und hund, hm, Array.toList_map, hf]
    simp
  · rename_i n e hund
    simp only [Option.bind_eq_some_iff, Option.some.injEq] at he
    obtain ⟨size, hs, cs, hcs, rfl⟩ := he
    obtain ⟨c', hf, hvl⟩ := fill_ok hσ hρ (place' := fun i => some (i * size, size)) (fun i => rfl) hpv hcs hcl
    refine .same hr (u := .agg c') ?_ (.agg _ _ hvl)
    simp only [execOp, ho, Instr.build, Sem.run_bind, hzr, Result.andThen_ok, r_und hund, r_size hs, Array.toList_map, hf]
    simp
  · cases he

theorem rep_get (cs : List V) : ∀ (n i : Nat), (rep cs n)[i]? = if i < n * cs.length then cs[i % cs.length]? else none
  | 0, i => by simp [rep]
  | n + 1, i => by
    simp only [rep]
    rw [List.getElem?_append]
    split
    · rename_i h
      rw [if_pos (by rw [Nat.add_mul]; omega), Nat.mod_eq_of_lt h]
    · rename_i h
      rw [rep_get cs n (i - cs.length)]
      have hp : 0 < cs.length ∨ cs.length = 0 := by omega
      rcases hp with hp | hp
      · have e1 : (i - cs.length) % cs.length = i % cs.length := by
          rw [← Nat.sub_add_cancel (show cs.length ≤ i by omega), Nat.add_mod_right]; simp
        rw [e1]
        by_cases hlt : i - cs.length < n * cs.length
        · rw [if_pos hlt, if_pos (by rw [Nat.add_mul]; omega)]
        · rw [if_neg hlt, if_neg (by rw [Nat.add_mul]; omega)]
      · simp [hp]

theorem rep_length (cs : List V) : ∀ n, (rep cs n).length = n * cs.length
  | 0 => by simp [rep]
  | n + 1 => by simp [rep, rep_length cs n, Nat.add_mul]; omega

/-- the cells that a make lays -/
theorem zeros_ok {z : List V} {uz : Array Value} (hz : VL σ φ z uz.toList) (n : Nat) : VL σ φ (rep z n) ((Array.range (n * z.length)).map (fun i => uz[i % uz.size]!)).toList := by
  have hlen : z.length = uz.size := by simpa using hz.length
  refine VL.of_get (by simp [rep_length]) fun i v hi => ?_
  rw [rep_get] at hi
  split at hi
  · rename_i hlt
    obtain ⟨u, hu, hvr⟩ := hz.get _ _ hi
    refine ⟨u, ?_, hvr⟩
    rw [hlen] at hu hlt
    have hu' : uz[i % uz.size]? = some u := by simpa using hu
    obtain ⟨hb, hg⟩ := Array.getElem?_eq_some_iff.1 hu'
    rw [Array.getElem?_toList, Array.getElem?_map, hlen]
    simp [hlt, hb, hg]
  · cases hi

theorem op_buildSlice (hσ : SymOk σ) {t : TypeId} {len : Nat} {ps : Array (Nat × Operand)} {r : V × H} (hr : HR P σ φ h w) (hf : Fresh φ h.next r.2.next) (hρ : RR σ φ tm ρ) {o : Oper} (ho : o.op = .buildSlice t len ps) (he : evOp P tm h o.op = some r) :
    OpOk P σ φ h w (execOp ρ o) r.1 r.2 := by
  rw [ho] at he
  simp only [evOp, evBuildSlice, Option.bind_eq_some_iff, slT_some, grd_some, Bool.and_eq_true] at he
  obtain ⟨e, hund, pv, hpv, size, hs, z, hz, ⟨hb1, hb2⟩, cs, hcs, he⟩ := he
  cases he
  have hb1 := Nat.le_of_ble_eq_true hb1
  have hb2 := Nat.eq_of_beq_eq_true hb2
  obtain ⟨u, hu, hzr⟩ := r_zero (σ := σ) (φ := φ) hz
  have hcl := hu.cells hσ
  have hzs := zeros_ok hcl len
  rw [hb2] at hzs
  have husz : u.cells.size = size := by have := hcl.length; simp at this; omega
  obtain ⟨c', hfl, hvl⟩ := fill_ok hσ hρ (place' := fun i => some (i * size, size)) (fun i => rfl) hpv hcs hzs
  obtain ⟨φ', hφ, a, b⟩ := new_row (e := e) hr (hf h.next (Nat.le_refl _) (by simp [H.new])) hvl hs
  have hx : φ' (Pos.of h.next) = some ⟨w.heap.size, 0, c'.size, size⟩ := by rw [hφ]; exact Phi.put_same _ _ _
  have hn : ¬ (len * size > 2 ^ 24) := by omega
  refine ⟨φ', .slice (some ⟨w.heap.size, 0, none⟩) len len, _, .inl ?_, b, a, ?_⟩
  · have hrun : (Instr.buildSlice t len (ps.map fun (i, x) => (i, ρ x))).run P w = .ok (.slice (some ⟨w.heap.size, 0, none⟩) len len) { w with heap := w.heap.push (.cells c' e) } := by
      unfold Instr.buildSlice
      rw [Sem.run_bind, r_und hund, Result.andThen_ok]
      simp only
      rw [Sem.run_bind, r_size hs, Result.andThen_ok, if_neg hn]
      by_cases h0 : len * size = 0
      · rw [if_pos h0]
        have hz0 : (Array.range (len * size)).map (fun i => (#[] : Array Value)[i % (#[] : Array Value).size]!) = (Array.range (len * size)).map (fun i => u.cells[i % u.cells.size]!) := by rw [h0]; simp
        simp only [Sem.run_bind, Sem.run_pure, Result.andThen_ok, Array.toList_map, hz0, hfl]
        simp [newRow]
      · rw [if_neg h0]
        simp only [Sem.run_bind, hzr, Result.andThen_ok, Sem.run_pure, Array.toList_map, hfl]
        simp [newRow]
    simp only [execOp, ho, Sem.run_bind, hrun, Result.andThen_ok, Sem.run_pure]
  · exact .sl (Pos.of h.next) 0 len len false ⟨w.heap.size, 0, c'.size, size⟩ len hx (fun _ => rfl) (fun e => by cases e)

theorem op_makeSlice (hσ : SymOk σ) {t : TypeId} {x y : Operand} {r : V × H} (hr : HR P σ φ h w) (hf : Fresh φ h.next r.2.next) (hρ : RR σ φ tm ρ) {o : Oper} (ho : o.op = .makeSlice t x y) (he : evOp P tm h o.op = some r) :
    OpOk P σ φ h w (execOp ρ o) r.1 r.2 := by
  rw [ho] at he
  simp only [evOp, evMkSlice, Option.bind_eq_some_iff, slT_some, grd_some, Bool.and_eq_true] at he
  obtain ⟨e, hund, lv, hlv, l, hl, cv, hcv, c, hc, info, hi, z, hz, ⟨⟨⟨⟨b1, b2⟩, b3⟩, b4⟩, b5⟩, he⟩ := he
  cases he
  have b1 := Nat.le_of_ble_eq_true b1
  have b2 := Nat.le_of_ble_eq_true b2
  have b3 := Nat.le_of_ble_eq_true b3
  have b4 := Nat.eq_of_beq_eq_true b4
  have b5 : 0 < info.size := by have := Nat.le_of_ble_eq_true b5; omega
  obtain ⟨k1, rfl⟩ := natI_some hl
  obtain ⟨k2, rfl⟩ := natI_some hc
  have hxu := (hρ _ _ hlv).int_inv
  have hyu := (hρ _ _ hcv).int_inv
  simp only [zeroV, hi, Option.bind_some, Option.bind_eq_some_iff] at hz
  obtain ⟨u, hzu, hzv⟩ := hz
  have hu : VR σ φ z u := ofValue_ok hzv
  have hcl := hu.cells hσ
  have hzs := zeros_ok hcl c
  rw [b4] at hzs
  have hs : cellsOf P e = some info.size := by simp [cellsOf, hi]
  obtain ⟨φ', hφ, a, b⟩ := new_row (e := e) hr (hf h.next (Nat.le_refl _) (by simp [H.new])) hzs hs
  have hx : φ' (Pos.of h.next) = some ⟨w.heap.size, 0, ((Array.range (c * info.size)).map (fun i => u.cells[i % u.cells.size]!)).size, info.size⟩ := by rw [hφ]; exact Phi.put_same _ _ _
  refine ⟨φ', .slice (some ⟨w.heap.size, 0, none⟩) l c, _, .inl ?_, b, a, ?_⟩
  · have hb3 : (info.bytes : Int) * (c : Int) ≤ 281474976710656 := by
      rw [← Int.natCast_mul]; omega
    have hrun := run_make (P := P) w t e info u hund hi hzu k1 k2 (Int.ofNat l) (Int.ofNat c) (by simp) (by simp; omega) hb3 (by simp; omega)
    simp only [execOp, ho, Sem.run_bind, hxu, hyu, hrun, Result.andThen_ok, Sem.run_pure]
    rfl
  · exact .sl (Pos.of h.next) 0 l c false _ c hx (fun _ => rfl) (fun e => by cases e)

end
end Go.Ev

namespace Go.Ev
variable {σ : Nat → Value} {φ φ' : Phi} {P : Program}
section
variable {h : H} {w : World} {tm : T V} {ρ : Operand → Value}

theorem cap_draw (s : Nat) (n : Nat) (e : TypeId) (w : World) : ∃ c, s ≤ c ∧ (choose (.appendCap s n e)).run P w = .ok c { w with drawn := w.drawn + 1 } := by
  refine ⟨_, ?_, by rw [run_choose]; rfl⟩
  simp [Question.cut]

theorem bytesV_ok : ∀ {cs : List V} {l : List Nat} {us : List Value}, bytesV cs = some l → VL σ φ cs us → us = l.map (fun n => Value.int .u8 (Int.ofNat n)) ∧ ∀ n ∈ l, n < 256
  | [], l, us, h, hv => by
    simp [bytesV] at h; subst h
    cases hv; exact ⟨rfl, by simp⟩
  | v :: cs, l, us, h, hv => by
    unfold bytesV at h
    split at h
    · rename_i h'; cases h'
    · rename_i n l' h'
      cases h'
      simp only [grd_some, Option.bind_eq_some_iff, Option.some.injEq] at h
      obtain ⟨hb, r, hr, rfl⟩ := h
      cases hv with
      | cons _ u _ m hu hm =>
        obtain ⟨h1, h2⟩ := bytesV_ok hr hm
        rw [hu.int_inv, h1]
        refine ⟨rfl, ?_⟩
        intro k hk
        cases hk with
        | head => have := Nat.le_of_ble_eq_true hb; omega
        | tail _ hk => exact h2 k hk
    · cases h

/-- the text of bytes -/
def txt (l : List Nat) (acc : ByteArray) : ByteArray := l.foldl (fun s n => s.push (UInt8.ofNat n)) acc

theorem txt_data : ∀ (l : List Nat) (acc : ByteArray), (∀ n ∈ l, n < 256) → (txt l acc).data.toList.map UInt8.toNat = acc.data.toList.map UInt8.toNat ++ l
  | [], acc, _ => by simp [txt]
  | n :: l, acc, h => by
    have := txt_data l (acc.push (UInt8.ofNat n)) (fun k hk => h k (by simp [hk]))
    simp only [txt, List.foldl_cons] at this ⊢
    rw [this]
    have hn := h n (by simp)
    simp [ByteArray.data_push, UInt8.toNat_ofNat_of_lt' (show n < UInt8.size from hn)]

theorem run_bytes (l : List Nat) (hl : ∀ n ∈ l, n < 256) (w : World) : ∀ (acc : ByteArray),
    (forIn (l.map (fun n => Value.int .u8 (Int.ofNat n))) acc (fun c s => match c with
      | .int .u8 n => pure (ForInStep.yield (s.push (UInt8.ofNat n.toNat)))
      | _ => do stuck "bytesToString: byte expected"; pure (ForInStep.yield s)) : Sem ByteArray).run P w = .ok (txt l acc) w := by
  induction l with
  | nil => intro acc; simp [txt]
  | cons n l ih =>
    intro acc
    have := ih (fun k hk => hl k (by simp [hk])) (acc.push (UInt8.ofNat n))
    simp only [List.map_cons, List.forIn_cons, Sem.run_bind, Sem.run_pure, Result.andThen_ok]
    exact this

/-- n cells of a block -/
theorem r_loadCells {b o n : Nat} {us : List Value} (hlen : us.length = n) (hcell : ∀ j u, us[j]? = some u → w.cell? ⟨b, o + j, none⟩ = some u) :
    (loadCells ⟨b, o, none⟩ n).run P w = .ok us.toArray w := by
  have key : ∀ (n i : Nat) (acc : Array Value) , i + n = us.length → (loadCellsFrom ⟨b, o, none⟩ i n acc).run P w = .ok (acc ++ (us.drop i).toArray) w := by
    intro n
    induction n with
    | zero => intro i acc hi; simp only [loadCellsFrom, Sem.run_pure]; rw [List.drop_eq_nil_of_le (by omega)]; simp
    | succ n ih =>
      intro i acc hi
      have hlt : i < us.length := by omega
      have hc := hcell i us[i] (by simp [hlt])
      simp only [loadCellsFrom, Sem.run_bind, run_load, addr_add, hc, Result.andThen_ok]
      rw [ih (i + 1) _ (by omega)]
      rw [List.drop_eq_getElem_cons hlt]
      congr 1
      apply Array.ext'
      simp
  subst hlen
  simp only [loadCells]
  rw [key us.length 0 #[] (by omega)]
  simp

theorem modify_push {α : Type} (a : Array α) (x : α) (f : α → α) : (a.push x).modify a.size f = a.push (f x) := by
  apply Array.ext_getElem?
  intro i
  rw [Array.getElem?_modify, Array.getElem?_push, Array.getElem?_push]
  by_cases hi : i = a.size
  · subst hi; simp
  · have : ¬ a.size = i := fun e => hi e.symm
    simp [hi, this]

theorem run_s2b (e : TypeId) (s : ByteArray) (w : World) : ∃ c, s.size ≤ c ∧ (Conv.stringToBytes e s).run P w = .ok (.slice (some ⟨w.heap.size, 0, none⟩) s.size c)
    { w with heap := w.heap.push (.cells ((s.data.map fun (b : UInt8) => Value.int .u8 b.toNat).toList ++ List.replicate (c - s.size) (Value.int .u8 0)).toArray e (c, c + 1)), drawn := w.drawn + 1 } := by
  obtain ⟨c, hc, hdraw⟩ := cap_draw (P := P) s.size 0 e w
  refine ⟨c, hc, ?_⟩
  have hsz : s.data.size = s.size := rfl
  have hn : s.size + (c - s.size) = c := by omega
  simp only [Conv.stringToBytes, Sem.run_bind, hdraw, Result.andThen_ok, newRow, run_newObj, Sem.run_pure, markStringish, run_shape]
  simp only [World.shape?, Array.getElem?_push_size, run_freeze, Result.andThen_ok, World.freeze]
  simp only [Array.size_append, Array.size_map, Array.size_replicate, hsz, hn]
  have ha : ((s.data.map fun (b : UInt8) => Value.int .u8 b.toNat).toList ++ List.replicate (c - s.size) (Value.int .u8 0)).toArray = (s.data.map fun (b : UInt8) => Value.int .u8 b.toNat) ++ Array.replicate (c - s.size) (.int .u8 0) := by
    apply Array.ext'; simp
  rw [ha]
  simp [modify_push]

theorem op_convert {s d : TypeId} {x : Operand} {r : V × H} (hr : HR P σ φ h w) (hf : Fresh φ h.next r.2.next) (hρ : RR σ φ tm ρ) {o : Oper} (ho : o.op = .convert s d x) (he : evOp P tm h o.op = some r) :
    OpOk P σ φ h w (execOp ρ o) r.1 r.2 ∧ (r.2.next = h.next → SameOk P σ φ h w (execOp ρ o) r.1 r.2) := by
  rw [ho] at he
  simp only [evOp, evConv, Option.bind_eq_some_iff] at he
  obtain ⟨v, hv, he⟩ := he
  have hu := hρ _ _ hv
  have fin : ∀ u, VR σ φ r.1 u → r.2 = h → (convert s d (ρ x)).run P w = .ok u w → OpOk P σ φ h w (execOp ρ o) r.1 r.2 ∧ (r.2.next = h.next → SameOk P σ φ h w (execOp ρ o) r.1 r.2) := fun u hvr hh hrun => by
    rw [hh]
    have : SameOk P σ φ h w (execOp ρ o) r.1 h := .same (by simp [execOp, ho, hrun]) hvr
    exact ⟨this.op hr, fun _ => this⟩
  unfold convV at he
  split at he
  · rename_i D k _ n hs hd
    cases he
    refine fin _ (.int _ _) rfl ?_
    rw [hu.int_inv]
    cases D <;> simp [convert, r_und hs, r_und hd, Conv.intToInt]
  · rename_i D l hs hd
    cases he
    obtain ⟨s', hs', rfl⟩ := hu.str_inv
    refine fin (.string s') (.str _ _ rfl) rfl ?_
    rw [hs']
    cases D <;> simp [convert, r_und hs, r_und hd]
  · rename_i D k n hs hd
    simp only [grd_some, Option.some.injEq] at he
    obtain ⟨hb, rfl⟩ := he
    have hn : n < 128 := by have := Nat.le_of_ble_eq_true hb; omega
    refine fin (.string (Utf8.encode n)) (.str _ _ ?_) rfl ?_
    · have hv : Utf8.valid (n : Int) = true := by simp [Utf8.valid]; omega
      simp [Utf8.encode, hv, hn]
      omega
    · rw [hu.int_inv]
      cases D <;> simp [convert, r_und hs, r_und hd, Conv.intToString]
  · rename_i D e l hs hd
    simp only [Option.bind_eq_some_iff, grd_some, Bool.and_eq_true, Option.some.injEq] at he
    obtain ⟨sz, hsz, ⟨hby, hb1⟩, rfl⟩ := he
    have hby := isByte_true.1 hby
    have hb1 := Nat.eq_of_beq_eq_true hb1
    subst hb1
    obtain ⟨s', hs', rfl⟩ := hu.str_inv
    obtain ⟨c, hc, hrun⟩ := run_s2b (P := P) e s' w
    have hbc : VL σ φ (byteCellsV (s'.data.toList.map UInt8.toNat)) ((s'.data.map fun b => Value.int .u8 b.toNat).toList) := by
      simp only [byteCellsV, Array.toList_map]
      generalize s'.data.toList = q
      induction q with
      | nil => exact .nil
      | cons a q ih => exact .cons _ _ _ _ (.int _ _) ih
    obtain ⟨A, B⟩ := new_open (e := e) (rest := List.replicate (c - s'.size) (.int .u8 0)) (fr := (c, c + 1)) (w := { w with drawn := w.drawn + 1 }) (hr.drew rfl) (hf h.next (Nat.le_refl _) (by simp [H.new])) hbc hsz
      (by intro i hi hcon; simp at hi; omega)
    refine ⟨?_, fun e => by simp [H.new] at e⟩
    refine ⟨_, .slice (some ⟨w.heap.size, 0, none⟩) s'.size c, _, .inl ?_, G.trans (G.drew (w' := { w with drawn := w.drawn + 1 }) rfl rfl rfl rfl) B, A, ?_⟩
    · simp only [execOp, ho, Sem.run_bind, convert, r_und hs, r_und hd, hs', r_und hby, Result.andThen_ok, hrun, Sem.run_pure]
    · have := VR.sl (σ := σ) (Pos.of h.next) 0 s'.size s'.size true _ c (Phi.put_same φ (Pos.of h.next) ⟨w.heap.size, 0, (s'.data.map fun b => Value.int .u8 b.toNat).toList.length + (List.replicate (c - s'.size) (Value.int .u8 0)).length, 1⟩) (fun e => by cases e) (fun _ => ⟨hc, by simp; omega⟩)
      simpa using this
  · rename_i e hs hd
    simp only [grd_some, Option.some.injEq] at he
    obtain ⟨hby, rfl⟩ := he
    have hby := isByte_true.1 hby
    refine fin (.string .empty) (.str _ _ rfl) rfl ?_
    have : ρ x = .slice none 0 0 := by generalize ρ x = u at hu; cases hu; rfl
    rw [this]
    simp [convert, r_und hs, r_und hd, r_und hby, Conv.bytesToString]
  · rename_i e y off len cap op hs hd
    simp only [grd_some, Option.bind_eq_some_iff, Option.some.injEq] at he
    obtain ⟨hby, cs, hcs, l, hl, rfl⟩ := he
    have hby := isByte_true.1 hby
    obtain ⟨lo, cap', hlo, _, _, hx⟩ := hu.sl_inv
    obtain ⟨us, hvl, hlen, hcell⟩ := hr.cells hcs hlo
    obtain ⟨rfl, hl2⟩ := bytesV_ok hl hvl
    refine fin (.string (txt l .empty)) (.str _ _ ?_) rfl ?_
    · rw [txt_data _ _ hl2]; rfl
    · rw [hx]
      have h1 := r_loadCells (P := P) hlen hcell
      have h2 := run_bytes (P := P) l hl2 w .empty
      simp only [convert, Sem.run_bind, r_und hs, r_und hd, r_und hby, Result.andThen_ok, Conv.bytesToString, h1, List.forIn_toArray]
      erw [h2]
      rfl
  · rename_i t y off hs hd
    simp only [grd_some, Option.bind_eq_some_iff, Option.some.injEq] at he
    obtain ⟨n, hn, hpos, cs, hcs, rfl⟩ := he
    have hne : n ≠ 0 := fun e => by subst e; simp [Nat.blt] at hpos
    obtain ⟨l, hl, hx⟩ := hu.ptr_inv
    simp only [H.cells, Option.bind_eq_some_iff, grd_some] at hcs
    obtain ⟨rw_, hrow, hb, _⟩ := hcs
    obtain ⟨c, fr, h1, h2, h3, _⟩ := hr.row (H.row?_some.1 hrow) hl
    have hle := Nat.le_of_ble_eq_true hb
    have hsh : w.shape? l.blk = some (rw_.1, c.size) := by simp [World.shape?, h1]
    refine fin (.pointer (some ⟨l.blk, l.base + off, none⟩)) (.ptr _ _ _ hl) rfl ?_
    rw [hx]
    have hlt : ¬ c.size ≤ l.base + off := by omega
    simp [convert, r_und hs, r_und hd, Conv.unsafePointer, Conv.seenAt, viewAt, hsh, cellsIn, r_size hn, hne, hlt]
  · rename_i t y off hs hd
    simp only [grd_some, Option.bind_eq_some_iff, Option.some.injEq, Bool.and_eq_true, Bool.not_eq_true'] at he
    obtain ⟨n, hn, hpos, row, hrow, ⟨hop, hlies⟩, rfl⟩ := he
    have hne : n ≠ 0 := fun e => by subst e; simp [Nat.blt] at hpos
    obtain ⟨l, hl, hx⟩ := hu.ptr_inv
    obtain ⟨c, fr, h1, h2, h3, h4, _⟩ := hr.row (H.row?_some.1 hrow) hl
    obtain ⟨hb0, hlim⟩ := h4 hop
    have hsh : w.shape? l.blk = some (row.1, c.size) := by simp [World.shape?, h1]
    have hcs : c.size = row.2.1.length := by omega
    refine fin (.pointer (some ⟨l.blk, l.base + off, none⟩)) (.ptr _ _ _ hl) rfl ?_
    rw [hx]
    simp [convert, r_und hs, r_und hd, Conv.unsafePointer, Conv.seenAt, viewAt, hsh, variablesAt, r_size hn, hne, hcs, hb0, hlies]
  · cases he

end
end Go.Ev

namespace Go.Ev
variable {σ : Nat → Value} {φ φ' : Phi} {P : Program}
section
variable {h : H} {w : World} {tm : T V} {ρ : Operand → Value}

theorem it_new {O1 : O} {ob : Obj} (hr : HR P σ φ h w) (hf : Fresh φ h.next (h.new O1).next) (hg : O1.grp = none)
    (ho : ∀ φ', Le φ φ' → ObjR P σ φ' ⟨w.heap.size, 0, 0, 0⟩ O1 ob) {e : Sem Next} (he : e.run P w = .ok (.value (.pointer (some ⟨w.heap.size, 0, none⟩))) { w with heap := w.heap.push ob }) :
    OpOk P σ φ h w e (.ptr (Pos.of h.next) 0) (h.new O1) := by
  have hn := hf h.next (Nat.le_refl _) (by simp [H.new])
  have hle := Phi.le_put (l := ⟨w.heap.size, 0, 0, 0⟩) hn
  obtain ⟨a, b⟩ := hr_new (P := P) (σ := σ) (o := O1) (ob := ob) (l := ⟨w.heap.size, 0, 0, 0⟩) hr hn rfl hg (ho _ hle)
  exact ⟨_, _, _, .inl he, b, a, by have := VR.ptr (σ := σ) (Pos.of h.next) 0 _ (Phi.put_same φ (Pos.of h.next) ⟨w.heap.size, 0, 0, 0⟩); simpa using this⟩

theorem op_range {t : TypeId} {x : Operand} {r : V × H} (hr : HR P σ φ h w) (hf : Fresh φ h.next r.2.next) (hρ : RR σ φ tm ρ) {o : Oper} (ho : o.op = .range t x) (he : evOp P tm h o.op = some r) :
    OpOk P σ φ h w (execOp ρ o) r.1 r.2 := by
  rw [ho] at he
  simp only [evOp, evRange, Option.bind_eq_some_iff] at he
  obtain ⟨v, hv, h', hh, he⟩ := he
  cases he
  have hu := hρ _ _ hv
  unfold rangeV at hh
  split at hh
  · rename_i s hund
    cases hh
    obtain ⟨s', hs', rfl⟩ := hu.str_inv
    exact it_new hr hf rfl (fun _ _ => ⟨rfl, s', rfl, rfl⟩) (by simp [execOp, ho, Instr.range, r_und hund, hs'])
  · rename_i hund
    cases hh
    have hx : ρ x = .map none := by generalize ρ x = u at hu; cases hu; rfl
    exact it_new hr hf rfl (fun _ _ => ⟨rfl, none, rfl, .inl ⟨rfl, rfl⟩⟩) (by simp [execOp, ho, Instr.range, r_und hund, hx])
  · rename_i m hund
    simp only [Option.bind_eq_some_iff, Option.some.injEq] at hh
    obtain ⟨e, he, rfl⟩ := hh
    obtain ⟨l, hl, hx⟩ := hu.map_inv
    obtain ⟨es', hb, hel⟩ := hr.map he hl
    exact it_new hr hf rfl (fun φ' hle => ⟨rfl, some l.blk, rfl, .inr ⟨m, l, rfl, hle _ _ hl, rfl⟩⟩) (by simp [execOp, ho, Instr.range, r_und hund, hx, run_getMap hb])
  · cases hh

theorem op_nextS {x : Operand} {r : V × H} (hr : HR P σ φ h w) (hρ : RR σ φ tm ρ) {o : Oper} (ho : o.op = .next x true) (he : evOp P tm h o.op = some r) :
    OpOk P σ φ h w (execOp ρ o) r.1 r.2 := by
  rw [ho] at he
  simp only [evOp, evNextS, Option.bind_eq_some_iff, ptr?_some, grd_some] at he
  obtain ⟨v, hv, p, rfl, h0, he⟩ := he
  have h0 := Nat.eq_of_beq_eq_true h0
  obtain ⟨l, hl, hx⟩ := (hρ _ _ hv).ptr_inv
  simp only [nextS, Option.bind_eq_some_iff] at he
  obtain ⟨s, hs, he⟩ := he
  have hget := H.sit?_some.1 hs
  obtain ⟨l0, ob, h1, h2, hb0, s', rfl, hs'⟩ := hr.holds.obj _ _ hget
  rw [hl] at h1; cases h1
  have hlen : s.1.length = s'.size := by rw [← hs']; simp
  have hgo : (getObj l.blk).run P w = .ok (.stringIter s' s.2) w := by simp [getObj, Sem.run, h2]
  rw [hb0, h0] at hx
  split at he
  · rename_i hlt
    cases he
    have hlt : ¬ s.2 < s'.size := by
      intro hc
      have : Nat.blt s.2 s.1.length = true := by rw [hlen]; exact Nat.ble_eq_true_of_le hc
      rw [this] at hlt; cases hlt
    refine .same hr (u := .tuple #[.bool false]) ?_ (.tup _ _ (.singleton (.bool _)))
    simp [execOp, ho, Instr.next, hx, hgo, hlt]
  · rename_i hlt
    have hlt : s.2 < s'.size := by
      have := Nat.le_of_ble_eq_true hlt
      rw [hlen] at this; exact this
    simp only [Option.bind_eq_some_iff, grd_some, Option.some.injEq] at he
    obtain ⟨b, hb, hsm, rfl⟩ := he
    have hsm : b < 128 := by have := Nat.le_of_ble_eq_true hsm; omega
    rw [← hs', List.getElem?_map, Option.map_eq_some_iff] at hb
    obtain ⟨c, hc, rfl⟩ := hb
    have hget! : s'.get! s.2 = c := by
      have : s'.data[s.2]? = some c := by simpa using hc
      obtain ⟨hb, hg⟩ := Array.getElem?_eq_some_iff.1 this
      show s'.data[s.2]! = c
      rw [getElem!_pos s'.data s.2 hb]; exact hg
    have hdec : Utf8.decode s' s.2 = (c.toNat, 1) := by
      simp [Utf8.decode, hget!, hsm]
    obtain ⟨a1, a2⟩ := hr_set (o' := .sit s.1 (s.2 + 1)) (ob' := .stringIter s' (s.2 + 1)) hr hget hl rfl rfl ⟨hb0, s', rfl, hs'⟩
    have hso : (setObj l.blk (.stringIter s' (s.2 + 1))).run P w = .ok () { w with heap := w.heap.setIfInBounds l.blk (.stringIter s' (s.2 + 1)) } := by simp [setObj, Sem.run, h2]
    refine ⟨φ, .tuple #[.bool true, .int .i64 s.2, .int .i32 c.toNat], _, .inl ?_, a2, a1, .tup _ _ (.cons _ _ _ _ (.bool _) (.cons _ _ _ _ (.int _ _) (.singleton (.int _ _))))⟩
    simp [execOp, ho, Instr.next, hx, hgo, hlt, hdec, hso, goInt]

theorem findE_ok {stamp : Nat} : ∀ {es : List (V × V × Nat)} {es' : List MapEntry} {e : V × V × Nat}, findE stamp es = some e → EL σ φ es es' → ∃ m, es'.find? (fun e => e.born == stamp) = some m ∧ ER σ φ e m
  | [], _, _, h, .nil => by simp [findE] at h
  | x :: es, _, e, h, .cons _ m _ l hm hl => by
    unfold findE at h
    split at h
    · rename_i hs
      cases h
      have := Nat.eq_of_beq_eq_true hs
      exact ⟨m, by simp [hm.2.2, this], hm⟩
    · rename_i hs
      have := Nat.ne_of_beq_eq_false hs
      obtain ⟨m', h1, h2⟩ := findE_ok h hl
      exact ⟨m', by simp [hm.2.2, this, h1], h2⟩

theorem op_entry {x : Operand} {r : V × H} (hr : HR P σ φ h w) (hρ : RR σ φ tm ρ) {o : Oper} (ho : o.op = .entry x) (he : evOp P tm h o.op = some r) :
    SameOk P σ φ h w (execOp ρ o) r.1 r.2 := by
  rw [ho] at he
  simp only [evOp, evEntry, Option.bind_eq_some_iff, ptr?_some, grd_some] at he
  obtain ⟨v, hv, p, rfl, h0, e, hent, he⟩ := he
  cases he
  have h0 := Nat.eq_of_beq_eq_true h0
  obtain ⟨l, hl, hx⟩ := (hρ _ _ hv).ptr_inv
  simp only [entryV, Option.bind_eq_some_iff, grd_some, Option.some.injEq] at hent
  obtain ⟨it, hit, m, hm, stamp, hst, me, hme, hck, en, hen, rfl⟩ := hent
  have hget := H.it?_some.1 hit
  obtain ⟨l0, ob, h1, h2, hb0, m', rfl, hmm⟩ := hr.holds.obj _ _ hget
  rw [hl] at h1; cases h1
  rw [hb0, h0] at hx
  have hgo : (getObj l.blk).run P w = .ok (.mapIter m' it.2.1 it.2.2.1.toArray it.2.2.2) w := by simp [getObj, Sem.run, h2]
  rcases hmm with ⟨hn, _⟩ | ⟨x', l', hx', hl', rfl⟩
  · rw [hm] at hn; cases hn
  rw [hm] at hx'; cases hx'
  obtain ⟨es', hb, hel⟩ := hr.map hme hl'
  obtain ⟨en', hf, her⟩ := findE_ok hen hel
  have hck := Nat.eq_of_beq_eq_true hck
  have hst' : it.2.2.1.toArray.back? = some stamp := by rw [← hst]; simp
  have hf' : es'.find? (fun e => e.born == stamp) = some en' := by rw [← hf]; simp
  refine .same (u := .tuple #[en'.key, en'.val]) ?_ (.tup _ _ (.cons _ _ _ _ her.1 (.singleton her.2.1)))
  simp only [execOp, ho, Instr.entry, hx, Nat.add_zero, Sem.run_bind, hgo, hst', run_getMap hb, Result.andThen_ok, hf', hck]
  simp

theorem op_typeAssert {x : Operand} {t t' : TypeId} {ok : Bool} {r : V × H} (hr : HR P σ φ h w) (hρ : RR σ φ tm ρ) {o : Oper} (ho : o.op = .typeAssert x t' t ok) (he : evOp P tm h o.op = some r) :
    OpOk P σ φ h w (execOp ρ o) r.1 r.2 := by
  rw [ho] at he
  simp only [evOp, evAssert, Option.bind_eq_some_iff] at he
  obtain ⟨v, hv, y, hy, he⟩ := he
  cases he
  have hu := hρ _ _ hv
  unfold assertV at hy
  split at hy
  · rename_i hif
    obtain ⟨D, hd, hn⟩ := isIface_false hif
    have hx : ρ x = .nilIface := by generalize ρ x = u at hu; cases hu; rfl
    split at hy
    · simp only [Option.bind_eq_some_iff, Option.some.injEq] at hy
      obtain ⟨z, hz, rfl⟩ := hy
      obtain ⟨u, huz, hrun⟩ := r_zero (σ := σ) (φ := φ) hz
      refine .same hr (u := .tuple #[u, .bool false]) ?_ (.tup _ _ (.cons _ _ _ _ huz (.singleton (.bool _))))
      simp only [execOp, ho, hx, Instr.typeAssert, Sem.run_bind, r_und hd, Result.andThen_ok]
      cases D <;> first | exact (hn _ rfl).elim | simp [hrun]
    · cases hy
  · rename_i u w' hif
    obtain ⟨D, hd, hn⟩ := isIface_false hif
    obtain ⟨u', hx, hvr⟩ := hu.ifc_inv
    split at hy
    · rename_i heq
      have heq := Nat.eq_of_beq_eq_true heq
      subst heq
      split at hy
      · cases hy
        refine .same hr (u := .tuple #[u', .bool true]) ?_ (.tup _ _ (.cons _ _ _ _ hvr (.singleton (.bool _))))
        simp only [execOp, ho, hx, Instr.typeAssert, Sem.run_bind, r_und hd, Result.andThen_ok]
        cases D <;> first | exact (hn _ rfl).elim | simp
      · cases hy
        refine .same hr (u := u') ?_ hvr
        simp only [execOp, ho, hx, Instr.typeAssert, Sem.run_bind, r_und hd, Result.andThen_ok]
        cases D <;> first | exact (hn _ rfl).elim | simp
    · rename_i heq
      have heq := Nat.ne_of_beq_eq_false heq
      split at hy
      · simp only [Option.bind_eq_some_iff, Option.some.injEq] at hy
        obtain ⟨z, hz, rfl⟩ := hy
        obtain ⟨uz, huz, hrun⟩ := r_zero (σ := σ) (φ := φ) hz
        refine .same hr (u := .tuple #[uz, .bool false]) ?_ (.tup _ _ (.cons _ _ _ _ huz (.singleton (.bool _))))
        simp only [execOp, ho, hx, Instr.typeAssert, Sem.run_bind, r_und hd, Result.andThen_ok]
        cases D <;> first | exact (hn _ rfl).elim | simp [hrun, heq]
      · cases hy
  · cases hy

end
end Go.Ev

namespace Go.Ev
variable {σ : Nat → Value} {φ φ' : Phi} {P : Program}
section
variable {h : H} {w : World} {tm : T V} {ρ : Operand → Value}

/-- what a builtin does -/
def BOk (P : Program) (σ : Nat → Value) (φ : Phi) (h : H) (w : World) (e : Sem Value) (v : V) (h' : H) : Prop :=
  ∃ φ' u w', e.run P w = .ok u w' ∧ G φ h w φ' h' w' ∧ HR P σ φ' h' w' ∧ VR σ φ' v u

theorem BOk.of_same {e : Sem Value} {v : V} {h' : H} (hr : HR P σ φ h w) (h1 : ∃ u, e.run P w = .ok u w ∧ VR σ φ v u ∧ h' = h) : BOk P σ φ h w e v h' := by
  obtain ⟨u, a, b, rfl⟩ := h1
  exact ⟨φ, u, w, a, G.refl _ _ _, hr, b⟩

theorem BOk.same {e : Sem Value} {v : V} {u : Value} (hr : HR P σ φ h w) (he : e.run P w = .ok u w) (hv : VR σ φ v u) : BOk P σ φ h w e v h :=
  ⟨φ, u, w, he, G.refl _ _ _, hr, hv⟩

theorem get0 {a : Array TypeId} {t : TypeId} {l : List TypeId} (h : a.toList = t :: l) : a[0]? = some t := by
  rw [← Array.getElem?_toList, h]; rfl
theorem get1 {a : Array TypeId} {t t' : TypeId} {l : List TypeId} (h : a.toList = t :: t' :: l) : a[1]? = some t' := by
  rw [← Array.getElem?_toList, h]; rfl

theorem b_len {ts : Array TypeId} {t ty : TypeId} {l : List TypeId} (ht : ts.toList = t :: l) {v : V} {u : Value} {n : Nat} (hr : HR P σ φ h w) (hv : VR σ φ v u) (he : lenV P h t v = some n) :
    ∃ u', (Builtin.len_ ts ty #[u]).run P w = .ok u' w ∧ VR σ φ (.int .i64 (Int.ofNat n)) u' := by
  have fin : ∀ u', (Builtin.len_ ts ty #[u]).run P w = .ok u' w → VR σ φ (.int .i64 (Int.ofNat n)) u' → ∃ u', (Builtin.len_ ts ty #[u]).run P w = .ok u' w ∧ VR σ φ (.int .i64 (Int.ofNat n)) u' := fun u' a b => ⟨u', a, b⟩
  have h0 := get0 ht
  unfold lenV at he
  split at he
  · rename_i s hund
    cases he
    obtain ⟨s', rfl, rfl⟩ := hv.str_inv
    exact fin (goInt s'.size) (by simp [Builtin.len_, h0, r_und hund]) (by
      have hq : (s'.data.toList.map UInt8.toNat).length = s'.size := by simp
      rw [hq]; exact .int _ _)
  · rename_i n' e hund
    cases he
    refine fin (goInt n) ?_ (.int _ _)
    cases u <;> simp [Builtin.len_, h0, r_und hund]
  · rename_i e x a b cp d hund
    cases he
    obtain ⟨l', cap', hl, _, _, rfl⟩ := hv.sl_inv
    exact fin (goInt n) (by simp [Builtin.len_, h0, r_und hund]) (.int _ _)
  · rename_i e hund
    cases he
    cases hv
    exact fin (goInt (0 : Nat)) (by simp [Builtin.len_, h0, r_und hund]) (.int _ _)
  · rename_i k e hund
    cases he
    cases hv
    exact fin (goInt 0) (by simp [Builtin.len_, h0, r_und hund]) (.int _ _)
  · rename_i k e x hund
    simp only [Option.bind_eq_some_iff, Option.some.injEq] at he
    obtain ⟨m, hm, rfl⟩ := he
    obtain ⟨l', hl, rfl⟩ := hv.map_inv
    obtain ⟨es', hb, hel⟩ := hr.map hm hl
    have hlen : m.1.length = es'.size := by simpa using hel.length
    exact fin (goInt es'.size) (by simp [Builtin.len_, h0, r_und hund, run_getMap hb]) (by rw [hlen]; exact .int _ _)
  · rename_i a hund
    simp only [Option.bind_eq_some_iff, Option.some.injEq, arT_some] at he
    obtain ⟨m, hm, rfl⟩ := he
    refine fin (goInt m.1) ?_ (.int _ _)
    cases u <;> simp [Builtin.len_, h0, r_und hund, r_und hm]
  · cases he

theorem b_cap {ts : Array TypeId} {t ty : TypeId} {l : List TypeId} (ht : ts.toList = t :: l) {v : V} {u : Value} {n : Nat} (hr : HR P σ φ h w) (hv : VR σ φ v u) (he : capV P t v = some n) :
    BOk P σ φ h w (Builtin.cap_ ts ty #[u]) (.int .i64 (Int.ofNat n)) h := by
  have h0 := get0 ht
  unfold capV at he
  split at he
  · rename_i e x a b cp hund
    cases he
    obtain ⟨l', cap', hl, hc, _, rfl⟩ := hv.sl_inv
    have := hc rfl
    subst this
    exact .same hr (u := goInt (cap' : Nat)) (by simp [Builtin.cap_, h0, r_und hund]) (.int _ _)
  · rename_i e hund
    cases he
    cases hv
    exact .same hr (u := goInt (0 : Nat)) (by simp [Builtin.cap_, h0, r_und hund]) (.int _ _)
  · cases he

theorem b_min {ts : Array TypeId} {ty : TypeId} {a b v : V} {ua ub : Value} (hr : HR P σ φ h w) (ha : VR σ φ a ua) (hb : VR σ φ b ub) (he : minV a b = some v) :
    BOk P σ φ h w (Builtin.min_ ts ty #[ua, ub]) v h := by
  unfold minV at he
  split at he
  · cases he
    rw [ha.int_inv, hb.int_inv]
    exact .same hr (by simp [Builtin.min_, Builtin.min2]) (.int _ _)
  · cases he

theorem b_max {ts : Array TypeId} {ty : TypeId} {a b v : V} {ua ub : Value} (hr : HR P σ φ h w) (ha : VR σ φ a ua) (hb : VR σ φ b ub) (he : maxV a b = some v) :
    BOk P σ φ h w (Builtin.max_ ts ty #[ua, ub]) v h := by
  unfold maxV at he
  split at he
  · cases he
    rw [ha.int_inv, hb.int_inv]
    exact .same hr (by simp [Builtin.max_, Builtin.max2]) (.int _ _)
  · cases he

theorem b_sliceData {ts : Array TypeId} {ty : TypeId} {v : V} {u : Value} {r : V × H} (hr : HR P σ φ h w) (hv : VR σ φ v u)
    (he : sliceDataV h v = some r) :
    BOk P σ φ h w (Builtin.unsafeSliceData_ ts ty #[u]) r.1 r.2 := by
  cases v with
  | snil =>
    cases he
    cases hv
    exact .same hr (u := .pointer none) rfl .pnil
  | sl x off n c op =>
    simp only [sliceDataV, grd_some, Option.some.injEq] at he
    obtain ⟨hb, rfl⟩ := he
    obtain ⟨l', cap', hl, hc, ho, rfl⟩ := hv.sl_inv
    have hne : cap' ≠ 0 := by
      have := Nat.le_of_ble_eq_true hb
      cases op with
      | false => have := hc rfl; omega
      | true => have := (ho rfl).1; omega
    refine .same hr (u := .pointer (some ⟨l'.blk, l'.base + off, none⟩)) ?_ (.ptr _ _ _ hl)
    show (if cap' ≠ 0 then pure (Value.pointer (some _)) else _ : Sem Value).run P w = _
    rw [if_pos hne]; rfl
  | _ => cases he

theorem EL.erase : ∀ {l : List (V × V × Nat)} {k : List MapEntry}, EL σ φ l k → ∀ (i : Nat), EL σ φ (eraseNth l i) (k.eraseIdx i)
  | _, _, .nil, i => by simp [eraseNth]; exact .nil
  | _, _, .cons e m l k h hl, 0 => by simpa [eraseNth] using hl
  | _, _, .cons e m l k h hl, i + 1 => by simpa [eraseNth] using .cons _ _ _ _ h (EL.erase hl i)

theorem b_delete {ts : Array TypeId} {t ty : TypeId} {l : List TypeId} (ht : ts.toList = t :: l) {m k : V} {um uk : Value} {h' : H} (hr : HR P σ φ h w) (hm : VR σ φ m um) (hk : VR σ φ k uk) (he : deleteV P h t m k = some h') :
    BOk P σ φ h w (Builtin.delete_ ts ty #[um, uk]) undefV h' := by
  have h0 := get0 ht
  simp only [deleteV, Option.bind_eq_some_iff, grd_some, mapT_some] at he
  obtain ⟨ke, hke, hkey, he⟩ := he
  obtain ⟨d, hd⟩ := keyOk_und hkey
  split at he
  · cases he
    cases hm
    have hck := keyOk_ok (w := w) 8 true hkey hk 10000 (by omega)
    exact .same hr (u := .tuple #[]) (by simp [Builtin.delete_, h0, r_und hke, hck]) (.tup _ _ .nil)
  · rename_i x
    simp only [Option.bind_eq_some_iff] at he
    obtain ⟨e, hx, fr, hf, he⟩ := he
    obtain ⟨l, hl, rfl⟩ := hm.map_inv
    obtain ⟨es', hb, hel⟩ := hr.map hx hl
    have hck := keyOk_ok (w := w) 8 es'.isEmpty hkey hk 10000 (by omega)
    obtain ⟨r', hfk, hfr⟩ := findKey_ok (w := w) hd hk hf hel
    have hget := H.map?_some.1 hx
    cases fr with
    | none =>
      cases he
      cases r' with
      | some q => exact hfr.elim
      | none =>
        obtain ⟨a, b⟩ := hr_set (o' := .map e.1 e.2) (ob' := .map es' e.2) hr hget hl rfl rfl ⟨_, rfl, hel⟩
        exact ⟨φ, .tuple #[], _, by simp [Builtin.delete_, h0, r_und hke, run_getMap hb, hck, hfk, run_setMap hb], b, a, .tup _ _ .nil⟩
    | some p =>
      obtain ⟨i, v0⟩ := p
      cases he
      cases r' with
      | none => exact hfr.elim
      | some q =>
        obtain ⟨j, u0⟩ := q
        obtain ⟨rfl, _⟩ := hfr
        obtain ⟨a, b⟩ := hr_set (o' := .map (eraseNth e.1 i) e.2) (ob' := .map (es'.eraseIdxIfInBounds i) e.2) hr hget hl rfl rfl ⟨_, rfl, by have := hel.erase i; simpa using this⟩
        exact ⟨φ, .tuple #[], _, by simp [Builtin.delete_, h0, r_und hke, run_getMap hb, hck, hfk, run_setMap hb], b, a, .tup _ _ .nil⟩
  · cases he

end
end Go.Ev

namespace Go.Ev
variable {σ : Nat → Value} {φ φ' : Phi} {P : Program}
section
variable {h : H} {w : World} {tm : T V} {ρ : Operand → Value}

theorem byteCells_ok (q : List UInt8) : VL σ φ (byteCellsV (q.map UInt8.toNat)) (q.map fun b => Value.int .u8 b.toNat) := by
  simp only [byteCellsV]
  induction q with
  | nil => exact .nil
  | cons a q ih => exact .cons _ _ _ _ (.int _ _) ih

theorem r_lenOf {v : V} {u : Value} {n : Nat} (hv : VR σ φ v u) (he : lenSrc v = some n) : (Builtin.lenOf u).run P w = .ok n w := by
  cases v <;> simp only [lenSrc, Option.some.injEq, reduceCtorEq] at he
  · obtain ⟨s, rfl, rfl⟩ := hv.str_inv
    subst he
    simp [Builtin.lenOf]
  · obtain ⟨l, c, _, _, _, rfl⟩ := hv.sl_inv
    subst he
    simp [Builtin.lenOf]
  · subst he; cases hv; simp [Builtin.lenOf]

theorem r_first {size n : Nat} {v : V} {u : Value} {cs : List V} (hr : HR P σ φ h w) (hv : VR σ φ v u) (he : copySrc h size n v = some cs) :
    ∃ us : List Value, VL σ φ cs us ∧ (Builtin.firstCells size n u).run P w = .ok us.toArray w := by
  cases v <;> simp only [copySrc, Option.some.injEq, reduceCtorEq, grd_some] at he
  · obtain ⟨_, rfl⟩ := he
    obtain ⟨s, rfl, rfl⟩ := hv.str_inv
    refine ⟨((s.data.toList.take n).map fun b => Value.int .u8 b.toNat), ?_, ?_⟩
    · rw [← List.map_take]; exact byteCells_ok _
    · simp only [Builtin.firstCells, Sem.run_pure]
      congr 1
      apply Array.ext'
      rw [Array.toList_map, ByteArray.data_extract, Array.toList_extract, List.extract_eq_take_drop]
      simp
  · obtain ⟨l, c, hl, _, _, rfl⟩ := hv.sl_inv
    obtain ⟨us, h1, h2, h3⟩ := hr.cells he hl
    exact ⟨us, h1, by simp only [Builtin.firstCells]; exact r_loadCells h2 h3⟩
  · subst he; cases hv
    exact ⟨[], .nil, by simp [Builtin.firstCells]⟩

/-- no cells of a source -/
theorem r_first0 {size : Nat} {v : V} {u : Value} {n : Nat} (hv : VR σ φ v u) (he : lenSrc v = some n) : (Builtin.firstCells size 0 u).run P w = .ok #[] w := by
  cases v <;> simp only [lenSrc, Option.some.injEq, reduceCtorEq] at he
  · obtain ⟨s, rfl, rfl⟩ := hv.str_inv
    simp only [Builtin.firstCells, Sem.run_pure]
    congr 1
    apply Array.ext'
    rw [Array.toList_map, ByteArray.data_extract, Array.toList_extract, List.extract_eq_take_drop]
    simp
  · obtain ⟨l, c, _, _, _, rfl⟩ := hv.sl_inv
    simp [Builtin.firstCells, loadCells, loadCellsFrom]
  · cases hv; simp [Builtin.firstCells]

theorem b_copy (hσ : SymOk σ) {ts : Array TypeId} {t ty : TypeId} {l : List TypeId} (ht : ts.toList = t :: l) {d s : V} {ud us : Value} {r : V × H} (hr : HR P σ φ h w) (hd : VR σ φ d ud) (hs : VR σ φ s us) (he : copyV P h t d s = some r) :
    BOk P σ φ h w (Builtin.copy_ ts ty #[ud, us]) r.1 r.2 := by
  have h0 := get0 ht
  simp only [copyV, Option.bind_eq_some_iff, slT_some] at he
  obtain ⟨e, hund, size, hsz, n, hn, he⟩ := he
  have hlen := r_lenOf (P := P) (w := w) hs hn
  split at he
  · cases he
    cases hd
    have hf := r_first0 (P := P) (w := w) (size := size) hs hn
    exact .same hr (u := goInt (0 : Nat)) (by simp [Builtin.copy_, h0, r_und hund, hlen, r_size hsz, hf]) (.int _ _)
  · rename_i x off len c op
    simp only [Option.bind_eq_some_iff, Option.some.injEq] at he
    obtain ⟨cs, hcs, h', hw, rfl⟩ := he
    obtain ⟨l', c', hl, _, _, rfl⟩ := hd.sl_inv
    obtain ⟨uc, hvl, hrun⟩ := r_first hr hs hcs
    obtain ⟨a1, a2, a3, a4, a5⟩ := hr.write hσ hw hl hvl
    have hst := r_storeCells (P := P) l'.blk (l'.base + off) uc 0 w (by simpa using a3) (by simpa using a4) a5
    simp only [Nat.add_zero] at hst
    exact ⟨φ, goInt (Nat.min n len), _, by simp [Builtin.copy_, h0, r_und hund, hlen, r_size hsz, hrun, hst], a2, a1, .int _ _⟩
  · cases he

theorem r_loadBytes {b : Nat} (l : List Nat) : ∀ (o : Nat) (acc : ByteArray), (∀ n ∈ l, n < 256) → (∀ j u, (l.map (fun n => Value.int .u8 (Int.ofNat n)))[j]? = some u → w.cell? ⟨b, o + j, none⟩ = some u) →
    (loadBytes ⟨b, o, none⟩ acc l.length).run P w = .ok (txt l acc) w := by
  induction l with
  | nil => intro o acc _ _; simp [loadBytes, txt]
  | cons n l ih =>
    intro o acc h1 h2
    have hc := h2 0 (.int .u8 (Int.ofNat n)) (by simp)
    simp only [Nat.add_zero] at hc
    have := ih (o + 1) (acc.push (UInt8.ofNat n)) (fun k hk => h1 k (by simp [hk])) (fun j u hj => by
      have := h2 (j + 1) u (by simpa using hj)
      rw [show o + 1 + j = o + (j + 1) by omega]; exact this)
    simp only [List.length_cons, loadBytes, Sem.run_bind, run_load, hc, Result.andThen_ok, addr_add]
    simpa [txt] using this

/-- bytes of a row that is one of bytes -/
theorem lies_byte {e u : TypeId} {count off n : Nat} (hu : P.underlying u = some (.int .u8)) (he : P.underlying e = some (.int .u8)) (hc : P.cellsOf e = 1) (hn : off + n ≤ count) : liesAt P P.depth e count off u n = true := by
  have hd : ∃ d, P.depth = d + 1 := ⟨2 * (P.types.size + Made.depth) + 1, rfl⟩
  obtain ⟨d, hd⟩ := hd
  rw [hd]
  unfold liesAt
  rw [hd]
  have hs : sameLayout P (d + 1) e u = true := by
    unfold sameLayout
    simp [hu, he]
  have : rowAt P (sameLayout P (d + 1) · u) (d + 1) e count off n = true := by
    unfold rowAt
    simp [hc, hs, hn, Nat.mod_one]
  rw [this]; rfl

theorem freeze_block {b : Nat} {c : Array Value} {e : TypeId} {fr : Nat × Nat} (hb : w.heap[b]? = some (.cells c e fr)) (o n : Nat) (hn : n ≠ 0) : ∃ fr', (w.freeze ⟨b, o, none⟩ n).heap = w.heap.setIfInBounds b (.cells c e fr') := by
  obtain ⟨lo, hi⟩ := fr
  refine ⟨if lo == hi then (o, o + n) else (min lo o, max hi (o + n)), ?_⟩
  simp only [World.freeze, hn, if_false]
  apply Array.ext_getElem?
  intro i
  rw [Array.getElem?_modify, Array.getElem?_setIfInBounds]
  by_cases hi' : b = i
  · subst hi'
    have hlt := (Array.getElem?_eq_some_iff.1 hb).1
    rw [hb]; simp [hlt]
  · simp [hi']

theorem dropAll_sub (x : Pos) : ∀ (l : List Pos) (t : T O) (y : Pos) (o : O), (dropAll x l t).get y = some o → t.get y = some o
  | [], t, y, o, h => h
  | z :: l, t, y, o, h => by
    unfold dropAll at h
    split at h
    · exact dropAll_sub x l t y o h
    · have := dropAll_sub x l _ y o h
      rw [T.get_put] at this
      split at this
      · cases this
      · exact this

theorem dropAll_keeps (x : Pos) : ∀ (l : List Pos) (t : T O) (o : O), t.get x = some o → (dropAll x l t).get x = some o
  | [], t, o, h => h
  | z :: l, t, o, h => by
    unfold dropAll
    split
    · exact dropAll_keeps x l t o h
    · rename_i hne
      refine dropAll_keeps x l _ o ?_
      rw [T.get_put_ne _ _ _ _ (fun e => ?_)]
      · exact h
      · subst e; rw [Pos.beq_refl] at hne; cases hne

theorem dropAll_gone (x : Pos) : ∀ (l : List Pos) (t : T O) (y : Pos) (o : O), y ∈ l → y ≠ x → (dropAll x l t).get y = some o → False
  | [], t, y, o, hm, _, _ => by cases hm
  | z :: l, t, y, o, hm, hne, h => by
    unfold dropAll at h
    by_cases hz : y = z
    · subst hz
      have hb : y.beq x = false := by
        cases hb : y.beq x with
        | true => exact (hne (Pos.beq_eq hb)).elim
        | false => rfl
      rw [hb] at h
      have := dropAll_sub x l _ y _ h
      rw [T.get_put_same] at this; cases this
    · have hm' : y ∈ l := by
        cases hm with
        | head => exact (hz rfl).elim
        | tail _ h => exact h
      split at h
      · exact dropAll_gone x l t y o hm' hne h
      · exact dropAll_gone x l _ y o hm' hne h

/-- a block turned into another, all others of its group given up -/
theorem hr_setA {x : Pos} {o o' : O} {ob' : Obj} {l : L} (hr : HR P σ φ h w) (hx : h.heap.get x = some o) (hl : φ x = some l)
    (hg : o'.grp = o.grp) (ho : ObjR P σ φ l o' ob') :
    HR P σ φ { h with heap := dropA h o.grp x (h.heap.put (some o') x) } { w with heap := w.heap.setIfInBounds l.blk ob' } ∧
      G φ h w φ { h with heap := dropA h o.grp x (h.heap.put (some o') x) } { w with heap := w.heap.setIfInBounds l.blk ob' } := by
  obtain ⟨l0, ob, h1, h2, _⟩ := hr.holds.obj x o hx
  rw [hl] at h1; cases h1
  have hlt := (Array.getElem?_eq_some_iff.1 h2).1
  have sub : ∀ y oy, (dropA h o.grp x (h.heap.put (some o') x)).get y = some oy → (y = x ∧ oy = o') ∨ (y ≠ x ∧ h.heap.get y = some oy) := by
    intro y oy hy
    have : (h.heap.put (some o') x).get y = some oy := by
      unfold dropA at hy
      split at hy
      · exact hy
      · exact dropAll_sub _ _ _ _ _ hy
    rw [T.get_put] at this
    split at this
    · rename_i e'; cases this; exact .inl ⟨e'.symm, rfl⟩
    · rename_i e'; exact .inr ⟨fun e2 => e' e2.symm, this⟩
  have apart : ∀ y oy ly, y ≠ x → (dropA h o.grp x (h.heap.put (some o') x)).get y = some oy → φ y = some ly → ly.blk ≠ l.blk := by
    intro y oy ly hne hy hly e
    have hold : h.heap.get y = some oy := by rcases sub y oy hy with ⟨e', _⟩ | ⟨_, h'⟩; exact (hne e').elim; exact h'
    rcases hr.holds.sep y x oy o ly l hold hx hly hl e with h' | ⟨g, g1, g2, _⟩
    · exact hne h'
    · obtain ⟨ms, hms, hmem⟩ := hr.grps y oy g hold g1
      rw [g2] at hy
      simp only [dropA, H.members, hms, Option.getD_some] at hy
      exact dropAll_gone x ms _ y oy hmem hne hy
  refine ⟨⟨⟨fun y oy hy => ?_, fun y z oy oz ly lz hy hz hly hlz hbb => ?_⟩, fun y oy g hy hgy => ?_⟩, ?_⟩
  · rcases sub y oy hy with ⟨rfl, rfl⟩ | ⟨hne, hold⟩
    · exact ⟨l, ob', hl, by simp [hlt], ho⟩
    · obtain ⟨ly, oby, e1, e2, e3⟩ := hr.holds.obj y oy hold
      exact ⟨ly, oby, e1, by
        have := apart y oy ly hne hy e1
        simp only [Array.getElem?_setIfInBounds_ne (Ne.symm this)]; exact e2, e3⟩
  · rcases sub y oy hy with ⟨e1, _⟩ | ⟨hne, hold⟩
    · rcases sub z oz hz with ⟨e2, _⟩ | ⟨hne2, hold2⟩
      · exact .inl (e1.trans e2.symm)
      · subst e1
        rw [hl] at hly; cases hly
        exact (apart z oz lz hne2 hz hlz hbb.symm).elim
    · rcases sub z oz hz with ⟨e2, _⟩ | ⟨hne2, hold2⟩
      · subst e2
        rw [hl] at hlz; cases hlz
        exact (apart y oy ly hne hy hly hbb).elim
      · exact hr.holds.sep y z oy oz ly lz hold hold2 hly hlz hbb
  · rcases sub y oy hy with ⟨rfl, rfl⟩ | ⟨hne, hold⟩
    · exact hr.grps y o g hx (by rw [← hg]; exact hgy)
    · exact hr.grps y oy g hold hgy
  · refine ⟨Nat.le_refl _, fun _ _ => rfl, fun b hb => .inl ?_, by simp, fun b _ hb => ?_, rfl, rfl, rfl⟩
    · obtain ⟨y, oy, ly, e1, e2, e3⟩ := hb
      rcases sub y oy e1 with ⟨rfl, rfl⟩ | ⟨hne, hold⟩
      · exact ⟨y, o, ly, hx, e2, e3⟩
      · exact ⟨y, oy, ly, hold, e2, e3⟩
    · have : l.blk ≠ b := fun e => hb ⟨x, o, l, hx, hl, e⟩
      simp [Array.getElem?_setIfInBounds_ne this]

theorem b_text {ts : Array TypeId} {pt ty : TypeId} {l : List TypeId} (ht : ts.toList = pt :: l) {p : V} {k : IntKind} {n : Nat} {up : Value} {r : V × H} (hr : HR P σ φ h w) (hp : VR σ φ p up) (hsm : n ≤ 100000000) (he : textV P h pt p n = some r) :
    BOk P σ φ h w (Builtin.unsafeString_ ts ty #[up, .int k (Int.ofNat n)]) r.1 r.2 := by
  have h0 := get0 ht
  have hmax : ¬ ((Int.ofNat n) > IntKind.i64.max) := by
    have : IntKind.i64.max = 9223372036854775807 := by decide
    rw [this]; simp; omega
  have hneg : ¬ ((Int.ofNat n) < 0) := by simp
  cases p with
  | pnil =>
    simp only [textV, grd_some, Option.some.injEq] at he
    obtain ⟨hb, rfl⟩ := he
    have hb := Nat.eq_of_beq_eq_true hb
    subst hb
    cases hp
    refine .same hr (u := .string .empty) ?_ (.str _ _ rfl)
    obtain ⟨e1, e2, e3, e4, hdef⟩ : ∃ (e1 : Sem Value) (e2 e3 : Sem PUnit) (e4 : Sem Value), Builtin.unsafeString_ ts ty #[.pointer none, .int k (Int.ofNat 0)] =
        (do
          let n ← asInt (.int k (Int.ofNat 0))
          let some pt := ts[0]? | e1
          if n < 0 then e2
          if n > IntKind.i64.max then e3
          if n = 0 then pure (.string .empty)
          else e4) := ⟨_, _, _, _, rfl⟩
    rw [hdef]
    simp only [asInt, asIntOf, Sem.run_bind, Sem.run_pure, Result.andThen_ok, h0, if_neg hneg, if_neg hmax]
    rfl
  | ptr x off =>
    simp only [textV, Option.bind_eq_some_iff, ptT_some, grd_some, Bool.and_eq_true, Option.some.injEq] at he
    obtain ⟨u, hpt, ⟨e, cs0, op, g, fz⟩, hrow, ⟨⟨⟨hbu, hbr⟩, hpos⟩, hc1⟩, cs, hcs, l, hbl, rfl⟩ := he
    have hbu := isByte_true.1 hbu
    have hbr := isByte_true.1 hbr
    have hpos : 0 < n := by have := Nat.le_of_ble_eq_true hpos; omega
    obtain ⟨lx, hl, rfl⟩ := hp.ptr_inv
    have hx := H.row?_some.1 hrow
    simp only at hx hbr
    obtain ⟨c, fr, h1, h2, h3, h4, h5, h6, h7⟩ := hr.row hx hl
    obtain ⟨us, hvl, hlen, hcell⟩ := hr.cells hcs hl
    obtain ⟨rfl, hl2⟩ := bytesV_ok hbl hvl
    have hlb := r_loadBytes (P := P) l (lx.base + off) .empty hl2 hcell
    have hll : l.length = n := by simpa using hlen
    rw [hll] at hlb
    obtain ⟨e1, e2, e3, e4, hdef⟩ : ∃ (e1 : Sem Value) (e2 e3 : Sem PUnit) (e4 : Sem Value), Builtin.unsafeString_ ts ty #[.pointer (some ⟨lx.blk, lx.base + off, none⟩), .int k (Int.ofNat n)] =
        (do
          let n ← asInt (.int k (Int.ofNat n))
          let some pt := ts[0]? | e1
          if n < 0 then e2
          if n > IntKind.i64.max then e3
          if n = 0 then pure (.string .empty)
          else if ← variablesAt ⟨lx.blk, lx.base + off, none⟩ (← elemOf pt) n.toNat then do
            let s ← loadBytes ⟨lx.blk, lx.base + off, none⟩ .empty n.toNat
            freeze ⟨lx.blk, lx.base + off, none⟩ n.toNat
            pure (.string s)
          else e4) := ⟨_, _, _, _, rfl⟩
    rw [hdef]
    have hn0 : ¬ (Int.ofNat n = 0) := by simp; omega
    have hsh : w.shape? lx.blk = some (e, c.size) := by simp [World.shape?, h1]
    have hc1 : P.cellsOf e = 1 := Nat.eq_of_beq_eq_true hc1
    have hlies := lies_byte (P := P) (e := e) (u := u) (count := c.size / P.cellsOf e) (off := lx.base + off) (n := n) hbu hbr hc1 (by
      rw [hc1, Nat.div_one]
      simp only [H.cells, Option.bind_eq_some_iff, grd_some] at hcs
      obtain ⟨r', hr', hb', _⟩ := hcs
      rw [hrow] at hr'; cases hr'
      have := Nat.le_of_ble_eq_true hb'
      simp only at this
      omega)
    obtain ⟨fr', hfr⟩ := freeze_block (w := w) h1 (lx.base + off) n (by omega)
    obtain ⟨A, B⟩ := hr_setA (o' := .row e cs0 op g true) (ob' := .cells c e fr') hr hx hl rfl ⟨c, fr', rfl, h2, h3, h4, h5, (fun e => by cases e), h7⟩
    have hw : (w.freeze ⟨lx.blk, lx.base + off, none⟩ n) = { w with heap := w.heap.setIfInBounds lx.blk (.cells c e fr') } := by
      rw [← hfr]
      simp only [World.freeze]
      split <;> rfl
    refine ⟨φ, .string (txt l .empty), _, ?_, B, A, .str _ _ (by rw [txt_data _ _ hl2]; rfl)⟩
    rw [← hw]
    simp only [asInt, asIntOf, Sem.run_bind, Sem.run_pure, Result.andThen_ok, h0, if_neg hneg, if_neg hmax, if_neg hn0, variablesAt, run_program, run_shape, hsh, elemOf, r_und hpt, show (Int.ofNat n).toNat = n from rfl, hlies, if_true, hlb, run_freeze]
  | _ => simp [textV] at he

end
end Go.Ev

namespace Go.Ev
variable {σ : Nat → Value} {φ φ' : Phi} {P : Program}
section
variable {h : H} {w : World} {tm : T V} {ρ : Operand → Value}

theorem growBy_le (n : Nat) : ∀ (r c : Nat), c < 2 * n + 256 → Builtin.growBy n r c < 2 * n + 256
  | 0, c, h => by simpa [Builtin.growBy] using h
  | r + 1, c, h => by
    unfold Builtin.growBy
    split
    · exact h
    · exact growBy_le n r _ (by omega)

theorem cap_le (n old : Nat) (h : old < n) : Builtin.nextslicecap n old < 2 * n + 256 := by
  unfold Builtin.nextslicecap
  split
  · omega
  · split
    · omega
    · exact growBy_le n 4 old (by omega)

/-- the source of an append -/
theorem r_src {xT : TypeId} {size n : Nat} {x : V} {u : Value} {cs : List V} (hr : HR P σ φ h w) (hx : VR σ φ x u) (he : srcV P h xT size x = some (cs, n)) :
    (∃ d, P.underlying xT = some d ∧ (d = .string ∨ ∃ e, d = .slice e)) ∧ (Builtin.lenOf u).run P w = .ok n w ∧
    ∃ us : List Value, VL σ φ cs us ∧ (Builtin.firstCells size n u).run P w = .ok us.toArray w ∧ us.length = n * size := by
  cases x <;> simp only [srcV, Option.bind_eq_some_iff, slT_some, grd_some, Bool.and_eq_true, Option.some.injEq, Prod.mk.injEq, reduceCtorEq] at he
  · obtain ⟨⟨h1, h2⟩, rfl, rfl⟩ := he
    have h1 := isStr_true.1 h1
    have h2 := Nat.eq_of_beq_eq_true h2
    subst h2
    obtain ⟨s, rfl, rfl⟩ := hx.str_inv
    refine ⟨⟨_, h1, .inl rfl⟩, ?_, s.data.toList.map (fun b => Value.int .u8 b.toNat), byteCells_ok _, ?_, by simp⟩
    · simp [Builtin.lenOf]
    · simp only [Builtin.firstCells, Sem.run_pure]
      congr 1
      apply Array.ext'
      rw [Array.toList_map, ByteArray.data_extract, Array.toList_extract, List.extract_eq_take_drop]
      have : (s.data.toList.map UInt8.toNat).length = s.data.toList.length := by simp
      rw [this]
      simp only [List.drop_zero, Nat.sub_zero, List.take_length]
  · rename_i y off len c op
    obtain ⟨e, h1, cs', hcs, rfl, rfl⟩ := he
    obtain ⟨l, cap', hl, _, _, rfl⟩ := hx.sl_inv
    obtain ⟨us, a1, a2, a3⟩ := hr.cells hcs hl
    exact ⟨⟨_, h1, .inr ⟨_, rfl⟩⟩, by simp [Builtin.lenOf], us, a1, by simp only [Builtin.firstCells]; exact r_loadCells a2 a3, a2⟩
  · obtain ⟨e, h1, rfl, rfl⟩ := he
    cases hx
    exact ⟨⟨_, h1, .inr ⟨_, rfl⟩⟩, by simp [Builtin.lenOf], [], .nil, by simp [Builtin.firstCells], by simp⟩

/-- an append that finds room -/
theorem run_append_in {ts : Array TypeId} {sT xT e ty : TypeId} {l : List TypeId} (ht : ts.toList = sT :: xT :: l) (hs : P.underlying sT = some (.slice e)) {size : Nat} (hsz : cellsOf P e = some size)
    {dx : TypeDesc} (hx : P.underlying xT = some dx) (hdx : dx = .string ∨ ∃ e, dx = .slice e) {base : Option Addr} {sLen sCap n : Nat} {u : Value} {us : List Value}
    (hlen : (Builtin.lenOf u).run P w = .ok n w) (hfirst : (Builtin.firstCells size n u).run P w = .ok us.toArray w) (hle : sLen + n ≤ sCap) {w' : World}
    (hst : ∀ a, base = some a → (storeCells (a.add (sLen * size)) us).run P w = .ok () w') (hnone : base = none → w' = w) :
    (Builtin.append_ ts ty #[.slice base sLen sCap, u]).run P w = .ok (.slice base (sLen + n) sCap) w' := by
  have h0 := get0 ht
  have h1 := get1 ht
  cases base with
  | none =>
    have := hnone rfl
    subst this
    rcases hdx with rfl | ⟨e', rfl⟩ <;>
      simp [Builtin.append_, h0, h1, r_und hs, r_size hsz, r_und hx, hlen, hle, hfirst]
  | some a =>
    have hst := hst a rfl
    rcases hdx with rfl | ⟨e', rfl⟩ <;>
      simp [Builtin.append_, h0, h1, r_und hs, r_size hsz, r_und hx, hlen, hle, hfirst, hst]

/-- an append that finds none -/
theorem run_append_out {ts : Array TypeId} {sT xT e ty : TypeId} {l : List TypeId} (ht : ts.toList = sT :: xT :: l) (hs : P.underlying sT = some (.slice e)) {i : TypeInfo} {z : Value} (hi : P.info? e = some i) (hz : i.zero = some z)
    {dx : TypeDesc} (hx : P.underlying xT = some dx) (hdx : dx = .string ∨ ∃ e, dx = .slice e) {base : Option Addr} {sLen sCap n : Nat} {u : Value} {us olds : List Value}
    (hlen : (Builtin.lenOf u).run P w = .ok n w) (hfirst : (Builtin.firstCells i.size n u).run P w.drew = .ok us.toArray w.drew)
    (hold : (Builtin.firstCells i.size sLen (.slice base sLen sCap)).run P w.drew = .ok olds.toArray w.drew)
    (hgt : sCap < sLen + n) (hb1 : (sLen + n) * i.bytes ≤ 100000000) (hb2 : sLen + n ≤ 100000000) :
    ∃ c, sLen + n ≤ c ∧ (Builtin.append_ ts ty #[.slice base sLen sCap, u]).run P w =
      .ok (.slice (some ⟨w.heap.size, 0, none⟩) (sLen + n) c) (w.drew.alloc (.cells ((olds ++ us) ++ (Builtin.zeroCells z.cells (c - (sLen + n))).toList).toArray e)) := by
  have h0 := get0 ht
  have h1 := get1 ht
  have hsz : cellsOf P e = some i.size := by simp [cellsOf, hi]
  refine ⟨grownCap w (sLen + n) sCap e, grownCap_ge w _ _ _, ?_⟩
  have hn : ¬ (sLen + n ≤ sCap) := by omega
  have h63' : ¬ (9223372036854775807 < ((sLen : Int) + (n : Int))) := by omega
  have hfit : Builtin.nextslicecap (sLen + n) sCap * i.bytes ≤ 281474976710656 := growslice_fits hgt (by omega)
  have h48' : ¬ (281474976710656 < Builtin.nextslicecap (sLen + n) sCap * i.bytes) := by omega
  have hz' : ∀ w : World, (zeroValue e).run P w = .ok z w := fun w => by simp [zeroValue, r_info hi, hz]
  have hc : (choose (.appendCap (sLen + n) sCap e)).run P w = .ok (grownCap w (sLen + n) sCap e) { w with drawn := w.drawn + 1 } := by
    rw [run_choose]; rfl
  have hmax : IntKind.i64.max = 9223372036854775807 := rfl
  rcases hdx with rfl | ⟨e', rfl⟩ <;>
  · simp [Builtin.append_, h0, h1, r_und hs, r_size hsz, r_und hx, hlen, hn, r_info hi, hmax, h63', h48', Question.forced, hfirst, hold, hz', newRow, grownCap]
    congr 2
    apply Array.ext'
    simp

end
end Go.Ev

namespace Go.Ev
variable {σ : Nat → Value} {φ φ' : Phi} {P : Program}
section
variable {h h' : H} {w w' : World} {tm : T V} {ρ : Operand → Value}

/-- what shareV makes -/
structure Sh (h : H) (y z : Pos) (off tip : Nat) (e : TypeId) (cs csy : List V) (op : Bool) (g : Option Pos) (h' : H) (g' : Pos) : Prop where
  hz : z = Pos.of h.next
  row : h.heap.get y = some (.row e csy op g false)
  gg : g = none ∧ g' = z ∨ g = some g'
  next : h'.next = h.next + 1
  new : h'.heap.get z = some (.row e cs true (some g') false)
  old : ∀ x o, x ≠ z → h'.heap.get x = some o → (x = y ∧ o = .row e csy op (some g') false) ∨ (x ≠ y ∧ h.heap.get x = some o)
  short : ∀ x o, x ≠ z → h'.heap.get x = some o → o.grp = some g' → (∀ x' o' g1, h.heap.get x' = some o' → o'.grp = some g1 → ∃ l, h.grps.get g1 = some l ∧ x' ∈ l) →
    off = 0 ∧ ∃ e2 cs2 op2 fz2, o = .row e2 cs2 op2 (some g') fz2 ∧ cs2.length ≤ tip
  grps : (∀ x' o' g1, h.heap.get x' = some o' → o'.grp = some g1 → ∃ l, h.grps.get g1 = some l ∧ x' ∈ l) → ∀ x o g1, h'.heap.get x = some o → o.grp = some g1 → ∃ l, h'.grps.get g1 = some l ∧ x ∈ l

theorem share_sh {y : Pos} {off tip : Nat} {e : TypeId} {cs : List V} (hyz : y ≠ Pos.of h.next) (he : shareV h y off tip e cs = some h') : ∃ csy op g g', Sh h y (Pos.of h.next) off tip e cs csy op g h' g' := by
  simp only [shareV, Option.bind_eq_some_iff, grd_some, Bool.and_eq_true, Bool.not_eq_true', Option.some.injEq] at he
  obtain ⟨⟨e0, csy, op, g, fz⟩, hrow, ⟨hee, hfz⟩, he⟩ := he
  have hee := Nat.eq_of_beq_eq_true hee
  simp only at hee hfz
  subst hee; subst hfz
  have hx := H.row?_some.1 hrow
  simp only at hx he
  generalize hz : Pos.of h.next = z at he hyz
  generalize hgd : gOf z g = g' at he
  generalize hld : lOf h y z g = lst at he
  have gg : g = none ∧ g' = z ∨ g = some g' := by
    cases g with
    | none => exact .inl ⟨rfl, hgd.symm⟩
    | some g0 => simp only [gOf] at hgd; subst hgd; exact .inr rfl
  subst he
  -- the heap ahead of what is given up
  have base : ∀ x, ((h.heap.put (some (O.row e0 csy op (some g') false)) y).put (some (O.row e0 cs true (some g') false)) z).get x = open Classical in
      if z = x then some (O.row e0 cs true (some g') false) else if y = x then some (O.row e0 csy op (some g') false) else h.heap.get x := fun x => by
    rw [T.get_put, T.get_put]
  generalize hT : (h.heap.put (some (O.row e0 csy op (some g') false)) y).put (some (O.row e0 cs true (some g') false)) z = T0 at *
  have zin : T0.get z = some (O.row e0 cs true (some g') false) := by rw [base]; simp
  have old0 : ∀ x o, x ≠ z → T0.get x = some o → (x = y ∧ o = .row e0 csy op (some g') false) ∨ (x ≠ y ∧ h.heap.get x = some o) := fun x o hne hx' => by
    rw [base] at hx'
    rw [if_neg (fun e => hne e.symm)] at hx'
    by_cases e : y = x
    · rw [if_pos e] at hx'; cases hx'; exact .inl ⟨e.symm, rfl⟩
    · rw [if_neg e] at hx'; exact .inr ⟨fun e2 => e e2.symm, hx'⟩
  have memb : (∀ x' o' g1, h.heap.get x' = some o' → o'.grp = some g1 → ∃ l, h.grps.get g1 = some l ∧ x' ∈ l) → ∀ x o, x ≠ z → T0.get x = some o → o.grp = some g' → x ∈ lst := by
    intro hG x o hne hx' hgo
    rcases old0 x o hne hx' with ⟨rfl, rfl⟩ | ⟨hne2, hold⟩
    · rcases gg with ⟨rfl, _⟩ | rfl
      · simp only [lOf] at hld; rw [← hld]; exact List.mem_cons_self
      · obtain ⟨l, h1, h2⟩ := hG x _ g' hx rfl
        simp only [lOf, H.members, h1, Option.getD_some] at hld
        rw [← hld]; exact h2
    · obtain ⟨l, h1, h2⟩ := hG x o g' hold hgo
      rcases gg with ⟨rfl, rfl⟩ | rfl
      · simp only [lOf, H.members, h1, Option.getD_some] at hld
        rw [← hld]; exact List.mem_cons_of_mem _ h2
      · simp only [lOf, H.members, h1, Option.getD_some] at hld
        rw [← hld]; exact h2
  have sub : ∀ x o, (match Nat.beq off 0 with | true => dropOthers z tip lst T0 | false => dropAll z lst T0).get x = some o → T0.get x = some o := by
    intro x o hx'
    split at hx'
    · exact dropOthers_sub _ _ _ _ _ _ hx'
    · exact dropAll_sub _ _ _ _ _ hx'
  refine ⟨csy, op, g, g', hz.symm, hx, gg, rfl, ?_, fun x o hne hx' => old0 x o hne (sub x o hx'), ?_, ?_⟩
  · show (match Nat.beq off 0 with | true => dropOthers z tip lst T0 | false => dropAll z lst T0).get z = _
    split
    · exact dropOthers_keeps _ _ _ _ _ zin
    · exact dropAll_keeps _ _ _ _ zin
  · intro x o hne hx' hgo hG
    have hx' : (match Nat.beq off 0 with | true => dropOthers z tip lst T0 | false => dropAll z lst T0).get x = some o := hx'
    have hm := memb hG x o hne (sub x o hx') hgo
    cases o with
    | row e2 cs2 op2 g2 fz2 =>
      simp only [O.grp] at hgo
      subst hgo
      split at hx'
      · rename_i h0
        exact ⟨Nat.eq_of_beq_eq_true h0, e2, cs2, op2, fz2, rfl, dropOthers_short _ _ _ _ _ _ _ _ _ _ hm hne hx'⟩
      · exact (dropAll_gone _ _ _ _ _ hm hne hx').elim
    | _ => simp [O.grp] at hgo
  · intro hG x o g1 hx' hgo
    have hx0 := sub x o hx'
    show ∃ l, (h.grps.put (some (z :: lst)) g').get g1 = some l ∧ x ∈ l
    rw [T.get_put]
    by_cases hxz : x = z
    · subst hxz
      rw [zin] at hx0; cases hx0
      simp only [O.grp, Option.some.injEq] at hgo
      subst hgo
      exact ⟨_, if_pos rfl, List.mem_cons_self⟩
    · by_cases hg1 : g' = g1
      · subst hg1
        exact ⟨_, if_pos rfl, List.mem_cons_of_mem _ (memb hG x o hxz hx0 hgo)⟩
      · rw [if_neg hg1]
        rcases old0 x o hxz hx0 with ⟨rfl, rfl⟩ | ⟨hne2, hold⟩
        · simp only [O.grp, Option.some.injEq] at hgo
          exact (hg1 hgo).elim
        · exact hG x o g1 hold hgo

theorem share_sep {y z : Pos} {off tip : Nat} {e : TypeId} {cs csy : List V} {op : Bool} {g : Option Pos} {g' : Pos} (s : Sh h y z off tip e cs csy op g h' g') (hr : HR P σ φ h w)
    {x1 x2 : Pos} {o1 o2 : O} {l1 l2 : L} (n1 : x1 ≠ z) (n2 : x2 ≠ z) (h1 : h'.heap.get x1 = some o1) (h2 : h'.heap.get x2 = some o2) (f1 : φ x1 = some l1) (f2 : φ x2 = some l2) (hb : l1.blk = l2.blk) :
    x1 = x2 ∨ ∃ g, o1.grp = some g ∧ o2.grp = some g ∧ l1.base = l2.base := by
  have key : ∀ x o, x ≠ z → h'.heap.get x = some o → ∃ o0, h.heap.get x = some o0 ∧ ∀ g0, o0.grp = some g0 → o.grp = some g0 := by
    intro x o hne hx
    rcases s.old x o hne hx with ⟨rfl, rfl⟩ | ⟨_, hold⟩
    · refine ⟨_, s.row, fun g0 hg => ?_⟩
      rcases s.gg with ⟨rfl, _⟩ | rfl
      · cases hg
      · simpa [O.grp] using hg
    · exact ⟨o, hold, fun _ h => h⟩
  obtain ⟨p1, a1, b1⟩ := key x1 o1 n1 h1
  obtain ⟨p2, a2, b2⟩ := key x2 o2 n2 h2
  rcases hr.holds.sep x1 x2 p1 p2 l1 l2 a1 a2 f1 f2 hb with h | ⟨g0, c1, c2, c3⟩
  · exact .inl h
  · exact .inr ⟨g0, b1 _ c1, b2 _ c2, c3⟩

/-- both ways of an append to what may have room: another block -/
theorem share_out {y z : Pos} {off tip : Nat} {e : TypeId} {cs csy : List V} {op : Bool} {g : Option Pos} {g' : Pos} (s : Sh h y z off tip e cs csy op g h' g') (hr : HR P σ φ h w) (hf : φ z = none)
    {us : List Value} (hv : VL σ φ cs us) {rest : List Value} {sz : Nat} (hsz : cellsOf P e = some sz) :
    HR P σ (φ.put z ⟨w.heap.size, 0, us.length + rest.length, sz⟩) h' (w.drew.alloc (.cells (us ++ rest).toArray e)) ∧
    G φ h w (φ.put z ⟨w.heap.size, 0, us.length + rest.length, sz⟩) h' (w.drew.alloc (.cells (us ++ rest).toArray e)) := by
  have hle := Phi.le_put (l := ⟨w.heap.size, 0, us.length + rest.length, sz⟩) hf
  have hlen := hv.length
  have hzy : y ≠ z := fun e' => by
    obtain ⟨l, _, hl, _⟩ := hr.holds.obj _ _ s.row
    rw [e', hf] at hl; cases hl
  have oldobj : ∀ x o, x ≠ z → h'.heap.get x = some o → ∃ o0 l ob, h.heap.get x = some o0 ∧ φ x = some l ∧ w.heap[l.blk]? = some ob ∧ ObjR P σ φ l o ob := by
    intro x o hne hx
    rcases s.old x o hne hx with ⟨rfl, rfl⟩ | ⟨_, hold⟩
    · obtain ⟨l, ob, h1, h2, h3⟩ := hr.holds.obj _ _ s.row
      exact ⟨_, l, ob, s.row, h1, h2, h3⟩
    · obtain ⟨l, ob, h1, h2, h3⟩ := hr.holds.obj _ _ hold
      exact ⟨o, l, ob, hold, h1, h2, h3⟩
  refine ⟨⟨⟨fun x o hx => ?_, fun x1 x2 o1 o2 l1 l2 h1 h2 f1 f2 hb => ?_⟩, s.grps hr.grps⟩, ?_⟩
  · by_cases hxz : x = z
    · subst hxz
      rw [s.new] at hx; cases hx
      refine ⟨_, .cells (us ++ rest).toArray e, Phi.put_same _ _ _, (by show (w.heap.push _)[w.heap.size]? = _; simp), (us ++ rest).toArray, (0, 0), rfl, (by simp), (by simp; omega), (fun e => by cases e), hsz, fun _ i _ _ => by simp, fun i v hi => ?_⟩
      obtain ⟨u, hu, hvr⟩ := hv.get i v hi
      refine ⟨u, ?_, hvr.mono hle⟩
      have hlt := (List.getElem?_eq_some_iff.1 hu).1
      simp [List.getElem?_append_left hlt, hu]
    · obtain ⟨_, l, ob, _, h1, h2, h3⟩ := oldobj x o hxz hx
      refine ⟨l, ob, hle _ _ h1, ?_, h3.mono hle⟩
      show (w.heap.push _)[l.blk]? = _
      rw [push_old _ _ _ (Array.getElem?_eq_some_iff.1 h2).1]; exact h2
  · have far : ∀ x o l, x ≠ z → h'.heap.get x = some o → (φ.put z ⟨w.heap.size, 0, us.length + rest.length, sz⟩) x = some l → l.blk < w.heap.size := by
      intro x o l hne hx hl
      obtain ⟨_, l', ob, _, h1, h2, _⟩ := oldobj x o hne hx
      rw [hle _ _ h1] at hl; cases hl
      exact (Array.getElem?_eq_some_iff.1 h2).1
    by_cases n1 : x1 = z
    · by_cases n2 : x2 = z
      · exact .inl (n1.trans n2.symm)
      · have := far x2 o2 l2 n2 h2 f2
        subst n1
        rw [Phi.put_same] at f1; cases f1
        simp only at hb; omega
    · by_cases n2 : x2 = z
      · have := far x1 o1 l1 n1 h1 f1
        subst n2
        rw [Phi.put_same] at f2; cases f2
        simp only at hb; omega
      · rw [Phi.put_ne _ _ _ _ (Ne.symm n1)] at f1
        rw [Phi.put_ne _ _ _ _ (Ne.symm n2)] at f2
        exact share_sep s hr n1 n2 h1 h2 f1 f2 hb
  · refine ⟨by rw [s.next]; omega, fun x hx => ?_, fun b hb => ?_, (by show _ ≤ (w.heap.push _).size; simp), fun b hb _ => ?_, rfl, rfl, rfl⟩
    · exact Phi.put_ne _ _ _ _ (fun e' => hx h.next (Nat.le_refl _) (by rw [s.next]; omega) (by rw [← e', s.hz]))
    · obtain ⟨x, o, l, h1, h2, h3⟩ := hb
      by_cases hxz : x = z
      · subst hxz
        rw [Phi.put_same] at h2; cases h2
        right; rw [← h3]; exact Nat.le_refl _
      · obtain ⟨o0, l', ob, a, b1, c, _⟩ := oldobj x o hxz h1
        rw [hle _ _ b1] at h2; cases h2
        exact .inl ⟨x, o0, _, a, b1, h3⟩
    · show (w.heap.push _)[b]? = _
      exact push_old _ _ _ hb

/-- the same block -/
theorem share_in {y z : Pos} {off : Nat} {e : TypeId} {old src csy : List V} {op : Bool} {g : Option Pos} {g' : Pos} (s : Sh h y z off (old.length) e (old ++ src) csy op g h' g') (hr : HR P σ φ h w) (hf : φ z = none)
    (hold : h.cells y off old.length = some old) {us : List Value} (hv : VL σ φ src us) {l : L} (hl : φ y = some l) (hfit : off + old.length + us.length ≤ l.lim) :
    HR P σ (φ.put z ⟨l.blk, l.base + off, l.lim - off, l.sz⟩) h' (wcells w l.blk (l.base + off + old.length) us) ∧
    G φ h w (φ.put z ⟨l.blk, l.base + off, l.lim - off, l.sz⟩) h' (wcells w l.blk (l.base + off + old.length) us) ∧
    (∀ j, j < us.length → (w.cell? ⟨l.blk, l.base + off + old.length + j, none⟩).isSome = true) ∧ (∀ j, j < us.length → w.frozen? ⟨l.blk, l.base + off + old.length + j, none⟩ = false) := by
  have hle := Phi.le_put (l := ⟨l.blk, l.base + off, l.lim - off, l.sz⟩) hf
  have hlen := hv.length
  obtain ⟨c, fr, h1, h2, h3, h4, h5, h6, h7⟩ := hr.row s.row hl
  have hin : l.base + off + old.length + us.length ≤ c.size := by omega
  obtain ⟨c', a1, a2, a3, a4⟩ := setCells_block l.blk e fr us (l.base + off + old.length) w c h1 hin
  obtain ⟨r1, r2, r3, _⟩ := setCells_rest l.blk us (l.base + off + old.length) w
  have hzy : y ≠ z := fun e' => by rw [e', hf] at hl; cases hl
  have hcsy : off + old.length ≤ csy.length := by
    simp only [H.cells, Option.bind_eq_some_iff, grd_some] at hold
    obtain ⟨r, hr1, hb, _⟩ := hold
    have := H.row?_some.1 hr1
    rw [s.row] at this
    have hle := Nat.le_of_ble_eq_true hb
    simp only [Option.some.injEq, O.row.injEq] at this
    rw [← this.2.1] at hle
    exact hle
  have hol : ∀ i v, old[i]? = some v → csy[off + i]? = some v := by
    intro i v hi
    simp only [H.cells, Option.bind_eq_some_iff, grd_some, Option.some.injEq] at hold
    obtain ⟨r, hr1, hb, hd⟩ := hold
    have := H.row?_some.1 hr1
    rw [s.row] at this
    simp only [Option.some.injEq, O.row.injEq] at this
    rw [← this.2.1] at hd
    rw [← hd, List.getElem?_take] at hi
    split at hi
    · rw [List.getElem?_drop] at hi; exact hi
    · cases hi
  -- whose block is this one?
  have same : ∀ x o lx, x ≠ z → h'.heap.get x = some o → φ x = some lx → lx.blk = l.blk → o.grp = some g' ∧ lx.base = l.base := by
    intro x o lx hne hx hlx hb
    rcases s.old x o hne hx with ⟨rfl, rfl⟩ | ⟨hne2, hold'⟩
    · rw [hl] at hlx; cases hlx; exact ⟨rfl, rfl⟩
    · rcases hr.holds.sep x y o _ lx l hold' s.row hlx hl hb with h | ⟨g0, c1, c2, c3⟩
      · exact (hne2 h).elim
      · rcases s.gg with ⟨rfl, _⟩ | rfl
        · cases c2
        · simp only [O.grp, Option.some.injEq] at c2
          subst c2
          exact ⟨c1, c3⟩
  have oldobj : ∀ x o, x ≠ z → h'.heap.get x = some o → ∃ o0 lx ob, h.heap.get x = some o0 ∧ φ x = some lx ∧ w.heap[lx.blk]? = some ob ∧ ObjR P σ φ lx o ob := by
    intro x o hne hx
    rcases s.old x o hne hx with ⟨rfl, rfl⟩ | ⟨_, hold⟩
    · obtain ⟨l, ob, h1, h2, h3⟩ := hr.holds.obj _ _ s.row
      exact ⟨_, l, ob, s.row, h1, h2, h3⟩
    · obtain ⟨l, ob, h1, h2, h3⟩ := hr.holds.obj _ _ hold
      exact ⟨o, l, ob, hold, h1, h2, h3⟩
  refine ⟨⟨⟨fun x o hx => ?_, fun x1 x2 o1 o2 l1 l2 h1 h2 f1 f2 hb => ?_⟩, s.grps hr.grps⟩, ?_, ?_, ?_⟩
  · by_cases hxz : x = z
    · subst hxz
      rw [s.new] at hx; cases hx
      refine ⟨_, _, Phi.put_same _ _ _, a1, c', fr, rfl, (by simp only; omega), (by simp; omega), (fun e => by cases e), h5, fun _ i hi1 hi2 => h6 rfl i (by simp only at hi1; omega) (by omega), fun i v hi => ?_⟩
      show ∃ u, c'[l.base + off + i]? = some u ∧ _
      by_cases hi' : i < old.length
      · rw [List.getElem?_append_left hi'] at hi
        obtain ⟨u, hu, hvr⟩ := h7 (off + i) v (hol i v hi)
        exact ⟨u, by rw [a4 _ (.inl (by omega)), ← hu]; congr 1; omega, hvr.mono hle⟩
      · rw [List.getElem?_append_right (by omega)] at hi
        obtain ⟨u, hu, hvr⟩ := hv.get _ _ hi
        have hlt := (List.getElem?_eq_some_iff.1 hu).1
        exact ⟨u, by rw [← hu, ← a3 (i - old.length) hlt]; congr 1; omega, hvr.mono hle⟩
    · obtain ⟨_, lx, ob, _, e1, e2, e3⟩ := oldobj x o hxz hx
      by_cases hblk : lx.blk = l.blk
      · obtain ⟨q1, q2⟩ := same x o lx hxz hx e1 hblk
        obtain ⟨h0, e2', cs2, op2, fz2, rfl, hsh⟩ := s.short x o hxz hx q1 hr.grps
        obtain ⟨c2, fr2, f1, f2, f3, f4, f5, f6, f7⟩ := e3
        subst f1
        rw [hblk, h1] at e2
        cases e2
        refine ⟨lx, _, hle _ _ e1, by rw [hblk]; exact a1, c', fr, rfl, by omega, f3, f4, f5, fun hz i hi1 hi2 => f6 hz i hi1 (by omega), fun i v hi => ?_⟩
        obtain ⟨u, hu, hvr⟩ := f7 i v hi
        have hi' : i < cs2.length := (List.getElem?_eq_some_iff.1 hi).1
        exact ⟨u, by rw [a4 _ (.inl (by omega))]; exact hu, hvr.mono hle⟩
      · exact ⟨lx, ob, hle _ _ e1, by rw [setCells_other _ _ _ _ _ hblk]; exact e2, e3.mono hle⟩
  · have conv : ∀ x o lx, x ≠ z → h'.heap.get x = some o → (φ.put z ⟨l.blk, l.base + off, l.lim - off, l.sz⟩) x = some lx → lx.blk = l.blk → o.grp = some g' ∧ lx.base = l.base + off := by
      intro x o lx hne hx hlx hb
      rw [Phi.put_ne _ _ _ _ (Ne.symm hne)] at hlx
      obtain ⟨q1, q2⟩ := same x o lx hne hx hlx hb
      obtain ⟨h0, _⟩ := s.short x o hne hx q1 hr.grps
      exact ⟨q1, by omega⟩
    by_cases n1 : x1 = z
    · by_cases n2 : x2 = z
      · exact .inl (n1.trans n2.symm)
      · subst n1
        rw [Phi.put_same] at f1; cases f1
        rw [s.new] at h1; cases h1
        obtain ⟨q1, q2⟩ := conv x2 o2 l2 n2 h2 f2 hb.symm
        exact .inr ⟨g', rfl, q1, q2.symm⟩
    · by_cases n2 : x2 = z
      · subst n2
        rw [Phi.put_same] at f2; cases f2
        rw [s.new] at h2; cases h2
        obtain ⟨q1, q2⟩ := conv x1 o1 l1 n1 h1 f1 hb
        exact .inr ⟨g', q1, rfl, q2⟩
      · rw [Phi.put_ne _ _ _ _ (Ne.symm n1)] at f1
        rw [Phi.put_ne _ _ _ _ (Ne.symm n2)] at f2
        exact share_sep s hr n1 n2 h1 h2 f1 f2 hb
  · refine ⟨by rw [s.next]; omega, fun x hx => ?_, fun b hb => .inl ?_, by rw [setCells_size]; exact Nat.le_refl _, fun b hb hn => ?_, r1, r2, r3⟩
    · exact Phi.put_ne _ _ _ _ (fun e' => hx h.next (Nat.le_refl _) (by rw [s.next]; omega) (by rw [← e', s.hz]))
    · obtain ⟨x, o, lx, q1, q2, q3⟩ := hb
      by_cases hxz : x = z
      · subst hxz
        rw [Phi.put_same] at q2; cases q2
        exact ⟨y, _, l, s.row, hl, q3⟩
      · obtain ⟨o0, l', ob, a, b1, _, _⟩ := oldobj x o hxz q1
        rw [hle _ _ b1] at q2; cases q2
        exact ⟨x, o0, _, a, b1, q3⟩
    · exact setCells_other _ _ _ _ _ (fun e' => hn ⟨y, _, l, s.row, hl, e'.symm⟩)
  · intro j hj
    rw [cell_of_block h1]
    simp [show l.base + off + old.length + j < c.size by omega]
  · intro j hj
    rw [frozen_of_block h1]
    have := h6 rfl (l.base + off + old.length + j) (by omega) (by omega)
    simpa using this

end
end Go.Ev

namespace Go.Ev
variable {σ : Nat → Value} {φ φ' : Phi} {P : Program}
section
variable {h h' : H} {w w' : World} {tm : T V} {ρ : Operand → Value}

theorem b_append (hσ : SymOk σ) {ts : Array TypeId} {sT xT ty : TypeId} {l : List TypeId} (ht : ts.toList = sT :: xT :: l) {s x : V} {us ux : Value} {r : V × H} (hr : HR P σ φ h w) (hf : Fresh φ h.next r.2.next)
    (hs : VR σ φ s us) (hx : VR σ φ x ux) (he : appendV P h sT xT s x = some r) :
    BOk P σ φ h w (Builtin.append_ ts ty #[us, ux]) r.1 r.2 := by
  simp only [appendV, Option.bind_eq_some_iff, slT_some, grd_some, Bool.and_eq_true] at he
  obtain ⟨e, hund, info, hi, ⟨hpos, hzs⟩, ⟨src, n⟩, hsrc, he⟩ := he
  have hpos : 0 < info.size := by have := Nat.le_of_ble_eq_true hpos; omega
  have hzz : ∃ z, info.zero = some z ∧ z.cells.size = info.size := by
    cases hq : info.zero with
    | none => rw [hq] at hzs; cases hzs
    | some z => rw [hq] at hzs; exact ⟨z, rfl, Nat.eq_of_beq_eq_true hzs⟩
  obtain ⟨z, hz, hzc⟩ := hzz
  have hzcl : ∀ m, (Builtin.zeroCells z.cells m).toList.length = m * info.size := fun m => by simp [Builtin.zeroCells, hzc]
  have hsz : cellsOf P e = some info.size := by simp [cellsOf, hi]
  obtain ⟨⟨dx, hdx, hdk⟩, hlen, uc, hvl, hfirst, hucl⟩ := r_src (w := w) hr hx hsrc
  obtain ⟨_, _, uc', hvl', hfirst', hucl'⟩ := r_src (w := w.drew) (hr.drew rfl) hx hsrc
  simp only at he
  split at he
  · -- nil
    cases hs
    split at he
    · rename_i h0
      cases he
      have h0 := Nat.eq_of_beq_eq_true h0
      subst h0
      have := run_append_in (P := P) (w := w) (w' := w) (base := none) (sLen := 0) (sCap := 0) (ty := ty) ht hund hsz hdx hdk hlen hfirst (by omega) (fun a e => by cases e) (fun _ => rfl)
      exact .same hr this .snil
    · rename_i h0
      have h0 := Nat.ne_of_beq_eq_false h0
      simp only [grd_some, Bool.and_eq_true, Option.some.injEq] at he
      obtain ⟨⟨b1, b2⟩, rfl⟩ := he
      have b1 := Nat.le_of_ble_eq_true b1
      have b2 := Nat.le_of_ble_eq_true b2
      obtain ⟨c, hc, hrun⟩ := run_append_out (P := P) (w := w) (base := none) (sLen := 0) (sCap := 0) (ty := ty) (olds := []) ht hund hi hz hdx hdk hlen hfirst'
        (by simp [Builtin.firstCells]) (by omega) (by simpa using b1) (by simpa using b2)
      simp only [Nat.zero_add, List.nil_append] at hrun hc
      have hfr := hf h.next (Nat.le_refl _) (by simp [H.new])
      obtain ⟨A, B⟩ := new_open (e := e) (rest := (Builtin.zeroCells z.cells (c - n)).toList) (fr := (0, 0)) (w := w.drew) (hr.drew rfl) hfr hvl' hsz (by intro i _ hcon; simp at hcon)
      refine ⟨_, _, _, hrun, G.trans (G.drew (w' := w.drew) rfl rfl rfl rfl) B, A, ?_⟩
      exact VR.sl (σ := σ) (Pos.of h.next) 0 n n true _ c (Phi.put_same φ (Pos.of h.next) ⟨w.heap.size, 0, uc'.length + (Builtin.zeroCells z.cells (c - n)).toList.length, info.size⟩) (fun e => by cases e)
        (fun _ => ⟨hc, by simp only [hzcl, hucl']; rw [← Nat.add_mul, Nat.zero_add]; exact Nat.mul_le_mul_right _ (by omega)⟩)
  · rename_i y off len cap op
    obtain ⟨l', cap', hl, hcp, hop, rfl⟩ := hs.sl_inv
    have hcap : cap ≤ cap' := by
      cases op with
      | false => rw [hcp rfl]; exact Nat.le_refl _
      | true => exact (hop rfl).1
    split at he
    · rename_i hle
      have hle := Nat.le_of_ble_eq_true hle
      simp only [Option.bind_eq_some_iff, Option.some.injEq] at he
      obtain ⟨h', hw, rfl⟩ := he
      obtain ⟨a1, a2, a3, a4, a5⟩ := hr.write hσ hw hl hvl
      have hst := r_storeCells (P := P) l'.blk (l'.base + (off + len * info.size)) uc 0 w (by simpa using a3) (by simpa using a4) a5
      simp only [Nat.add_zero] at hst
      have := run_append_in (P := P) (w := w) (base := some ⟨l'.blk, l'.base + off, none⟩) (sLen := len) (sCap := cap') (ty := ty) ht hund hsz hdx hdk hlen hfirst (by omega)
        (fun a e => by cases e; rw [addr_add, Nat.add_assoc]; exact hst) (fun e => by cases e)
      exact ⟨φ, _, _, this, a2, a1, .sl _ _ _ _ _ _ _ hl hcp hop⟩
    · rename_i hgt
      have hgt : cap < len + n := by
        rcases Nat.lt_or_ge cap (len + n) with h | h
        · exact h
        · rw [Nat.ble_eq_true_of_le h] at hgt; cases hgt
      simp only [grd_some, Option.bind_eq_some_iff, Bool.and_eq_true] at he
      obtain ⟨⟨b1, b2⟩, old, hold, he⟩ := he
      have b1 := Nat.le_of_ble_eq_true b1
      have b2 := Nat.le_of_ble_eq_true b2
      obtain ⟨uo, hvo, hlo, hco⟩ := hr.cells hold hl
      have hfo : ∀ c2, (Builtin.firstCells info.size len (.slice (some ⟨l'.blk, l'.base + off, none⟩) len c2)).run P w.drew = .ok uo.toArray w.drew := fun c2 => by
        simp only [Builtin.firstCells]; exact r_loadCells hlo hco
      have hvou := hvo.append hvl'
      split at he
      · cases he
        have := hcp rfl
        subst this
        obtain ⟨c, hc, hrun⟩ := run_append_out (P := P) (w := w) (base := some ⟨l'.blk, l'.base + off, none⟩) (sLen := len) (sCap := cap') (ty := ty) (olds := uo) ht hund hi hz hdx hdk hlen hfirst' (hfo _) hgt b1 b2
        have hfr := hf h.next (Nat.le_refl _) (by simp [H.new])
        obtain ⟨A, B⟩ := new_open (e := e) (rest := (Builtin.zeroCells z.cells (c - (len + n))).toList) (fr := (0, 0)) (w := w.drew) (hr.drew rfl) hfr hvou hsz (by intro i _ hcon; simp at hcon)
        refine ⟨_, _, _, hrun, G.trans (G.drew (w' := w.drew) rfl rfl rfl rfl) B, A, ?_⟩
        exact VR.sl (σ := σ) (Pos.of h.next) 0 (len + n) (len + n) true _ c (Phi.put_same φ (Pos.of h.next) ⟨w.heap.size, 0, (uo ++ uc').length + (Builtin.zeroCells z.cells (c - (len + n))).toList.length, info.size⟩) (fun e => by cases e)
          (fun _ => ⟨hc, by simp only [hzcl, List.length_append, hucl', hlo]; rw [← Nat.add_mul, ← Nat.add_mul, Nat.zero_add]; exact Nat.mul_le_mul_right _ (by omega)⟩)
      · simp only [grd_some, Option.bind_eq_some_iff, Bool.and_eq_true, Option.some.injEq] at he
        obtain ⟨⟨b3, b4⟩, h', hsh, rfl⟩ := he
        have b3 := Nat.le_of_ble_eq_true b3
        have hnext : h'.next = h.next + 1 := by
          simp only [shareV, Option.bind_eq_some_iff, grd_some, Option.some.injEq] at hsh
          obtain ⟨_, _, _, rfl⟩ := hsh
          rfl
        have hfr := hf h.next (Nat.le_refl _) (by show h.next < h'.next; omega)
        obtain ⟨csy, op2, g, g', s⟩ := share_sh (fun e => by rw [e, hfr] at hl; cases hl) hsh
        obtain ⟨_, ho2⟩ := hop rfl
        have holen : old.length = len * info.size := by have := hvo.length; omega
        have hlsz : l'.sz = info.size := by
          obtain ⟨_, _, _, _, _, _, q, _⟩ := hr.row s.row hl
          rw [hsz] at q; exact (Option.some.inj q).symm
        by_cases hin : len + n ≤ cap'
        · have hfit : off + old.length + uc.length ≤ l'.lim := by
            rw [holen, hucl, Nat.add_assoc, ← Nat.add_mul]
            rw [hlsz] at ho2
            exact Nat.le_trans (Nat.add_le_add_left (Nat.mul_le_mul_right _ hin) _) ho2
          rw [← holen] at s hold
          obtain ⟨A, B, a3, a4⟩ := share_in s hr hfr hold hvl hl hfit
          have a5 : ∀ u ∈ uc, u.oneCell' = true := by
            intro u hu
            obtain ⟨i, hi⟩ := List.getElem?_of_mem hu
            have hi' : i < src.length := by
              have := (List.getElem?_eq_some_iff.1 hi).1
              have := hvl.length
              omega
            obtain ⟨u', hu', hvr⟩ := hvl.get i src[i] (by simp [hi'])
            rw [hi] at hu'; cases hu'
            exact hvr.one hσ (List.all_eq_true.1 b4 _ (List.getElem_mem hi'))
          have hst := r_storeCells (P := P) l'.blk (l'.base + off + old.length) uc 0 w (by simpa using a3) (by simpa using a4) a5
          simp only [Nat.add_zero] at hst
          have := run_append_in (P := P) (w := w) (base := some ⟨l'.blk, l'.base + off, none⟩) (sLen := len) (sCap := cap') (ty := ty) ht hund hsz hdx hdk hlen hfirst hin
            (fun a e => by cases e; rw [addr_add, ← holen]; exact hst) (fun e => by cases e)
          refine ⟨_, _, _, this, B, A, ?_⟩
          exact VR.sl (σ := σ) (Pos.of h.next) 0 (len + n) (len + n) true ⟨l'.blk, l'.base + off, l'.lim - off, l'.sz⟩ cap' (Phi.put_same φ (Pos.of h.next) _) (fun e => by cases e) (fun _ => ⟨hin, by simp only; omega⟩)
        · obtain ⟨c, hc, hrun⟩ := run_append_out (P := P) (w := w) (base := some ⟨l'.blk, l'.base + off, none⟩) (sLen := len) (sCap := cap') (ty := ty) (olds := uo) ht hund hi hz hdx hdk hlen hfirst' (hfo _) (by omega) b1 b2
          obtain ⟨A, B⟩ := share_out s hr hfr hvou (rest := (Builtin.zeroCells z.cells (c - (len + n))).toList) hsz
          refine ⟨_, _, _, hrun, B, A, ?_⟩
          exact VR.sl (σ := σ) (Pos.of h.next) 0 (len + n) (len + n) true _ c (Phi.put_same φ (Pos.of h.next) ⟨w.heap.size, 0, (uo ++ uc').length + (Builtin.zeroCells z.cells (c - (len + n))).toList.length, info.size⟩) (fun e => by cases e)
            (fun _ => ⟨hc, by simp only [hzcl, List.length_append, hucl', hlo]; rw [← Nat.add_mul, ← Nat.add_mul, Nat.zero_add]; exact Nat.mul_le_mul_right _ (by omega)⟩)
  · cases he

end
end Go.Ev

namespace Go.Ev
variable {σ : Nat → Value} {φ φ' : Phi} {P : Program}
section
variable {h h' : H} {w w' : World} {tm : T V} {ρ : Operand → Value}

theorem BOk.op {e : Sem Value} {e' : Sem Next} {v : V} (hb : BOk P σ φ h w e v h') (he : e' = (do pure (.value (← e)) : Sem Next)) : OpOk P σ φ h w e' v h' := by
  obtain ⟨φ', u, w', h1, h2, h3, h4⟩ := hb
  subst he
  exact ⟨φ', u, w', .inl (by simp [h1]), h2, h3, h4⟩

theorem VL.one {v : V} {a : Array Value} (h : VL σ φ [v] a.toList) : ∃ u, a = #[u] ∧ VR σ φ v u := by
  obtain ⟨l⟩ := a
  cases h with
  | cons _ u _ m hu hm =>
    cases hm
    exact ⟨u, rfl, hu⟩

theorem VL.two {v v' : V} {a : Array Value} (h : VL σ φ [v, v'] a.toList) : ∃ u u', a = #[u, u'] ∧ VR σ φ v u ∧ VR σ φ v' u' := by
  obtain ⟨l⟩ := a
  cases h with
  | cons _ u _ m hu hm =>
    cases hm with
    | cons _ u' _ m' hu' hm' =>
      cases hm'
      exact ⟨u, u', rfl, hu, hu'⟩

theorem op_builtin (hσ : SymOk σ) {c : Call} {b : Builtin} (hc : c.callee = .builtin b) {r : V × H} (hr : HR P σ φ h w) (hf : Fresh φ h.next r.2.next) (hρ : RR σ φ tm ρ) {o : Oper} (ho : o.op = .call c) (he : evOp P tm h o.op = some r) :
    OpOk P σ φ h w (execOp ρ o) r.1 r.2 := by
  rw [ho] at he
  simp only [evOp, evBuiltin, hc, Option.bind_eq_some_iff] at he
  obtain ⟨args, hargs, he⟩ := he
  have hvl : VL σ φ args (c.args.map ρ).toList := by
    have := hρ.list hargs
    simpa using this
  have hexec : execOp ρ o = builtin b c.argTypes o.type (c.args.map fun | .const _ => true | _ => false) (c.args.map ρ) := by
    unfold execOp
    simp only [ho, resolve, hc]
    rfl
  unfold builtinV at he
  split at he
  · rename_i sT xT l s x hts
    obtain ⟨us, ux, hua, h1, h2⟩ := hvl.two
    rw [hua] at hexec
    exact (b_append hσ hts hr hf h1 h2 he).op (by rw [hexec]; rfl)
  · rename_i t l x hts
    obtain ⟨u, hua, h1⟩ := hvl.one
    rw [hua] at hexec
    simp only [Option.bind_eq_some_iff, Option.some.injEq] at he
    obtain ⟨n, hn, rfl⟩ := he
    obtain ⟨u', q1, q2⟩ := b_len (ty := o.type) hts hr h1 hn
    exact (BOk.of_same hr ⟨u', q1, q2, rfl⟩).op (by rw [hexec]; rfl)
  · rename_i t l x hts
    obtain ⟨u, hua, h1⟩ := hvl.one
    rw [hua] at hexec
    simp only [Option.bind_eq_some_iff, Option.some.injEq] at he
    obtain ⟨n, hn, rfl⟩ := he
    exact (b_cap hts hr h1 hn).op (by rw [hexec]; rfl)
  · rename_i t l d s hts
    obtain ⟨us, ux, hua, h1, h2⟩ := hvl.two
    rw [hua] at hexec
    exact (b_copy hσ hts hr h1 h2 he).op (by rw [hexec]; rfl)
  · rename_i t l m k hts
    obtain ⟨us, ux, hua, h1, h2⟩ := hvl.two
    rw [hua] at hexec
    simp only [Option.bind_eq_some_iff, Option.some.injEq] at he
    obtain ⟨h', hn, rfl⟩ := he
    exact (b_delete hts hr h1 h2 hn).op (by rw [hexec]; rfl)
  · rename_i a b
    obtain ⟨us, ux, hua, h1, h2⟩ := hvl.two
    rw [hua] at hexec
    simp only [Option.bind_eq_some_iff, Option.some.injEq] at he
    obtain ⟨v, hn, rfl⟩ := he
    exact (b_min hr h1 h2 hn).op (by rw [hexec]; rfl)
  · rename_i a b
    obtain ⟨us, ux, hua, h1, h2⟩ := hvl.two
    rw [hua] at hexec
    simp only [Option.bind_eq_some_iff, Option.some.injEq] at he
    obtain ⟨v, hn, rfl⟩ := he
    exact (b_max hr h1 h2 hn).op (by rw [hexec]; rfl)
  · rename_i x
    obtain ⟨u, hua, h1⟩ := hvl.one
    rw [hua] at hexec
    exact (b_sliceData hr h1 he).op (by rw [hexec]; rfl)
  · rename_i pt l p n hts
    obtain ⟨us, ux, hua, h1, h2⟩ := hvl.two
    rw [hua] at hexec
    simp only [Option.bind_eq_some_iff, grd_some] at he
    obtain ⟨m, hm, hb, he⟩ := he
    obtain ⟨k, rfl⟩ := natI_some hm
    have hn := h2.int_inv
    subst hn
    exact (b_text hts hr h1 (Nat.le_of_ble_eq_true hb) he).op (by rw [hexec]; rfl)
  · cases he

/-- each operation that is evaluated does what it is said to do -/
theorem evOp_ok (hσ : SymOk σ) {r : V × H} (hr : HR P σ φ h w) (hf : Fresh φ h.next r.2.next) (hρ : RR σ φ tm ρ) (o : Oper) (he : evOp P tm h o.op = some r) :
    OpOk P σ φ h w (execOp ρ o) r.1 r.2 := by
  cases ho : o.op with
  | move x => exact op_move hr hρ ho he
  | assign x => exact op_assign hr hρ ho he
  | pick c a b => exact op_pick hr hρ ho he
  | alloc t => exact op_alloc hσ hr hf ho he
  | box t x => exact op_box hσ hr hf hρ ho he
  | build t ps => exact op_build hσ hr hρ ho he
  | buildSlice t n ps => exact op_buildSlice hσ hr hf hρ ho he
  | load t a => exact (op_load hr hρ ho he).op hr
  | store t a x => exact op_store hσ hr hρ ho he
  | nilCheck x => exact op_nilCheck hr hρ ho he
  | binOp b t x y t' => exact op_binOp hr hρ ho he
  | unOp u t x => exact op_unOp hr hρ ho he
  | convert s d x => exact (op_convert hr hf hρ ho he).1
  | makeInterface t x => exact op_makeInterface hr hρ ho he
  | makeFunc f a b => exact op_makeFunc hr hρ ho he
  | makeMap t x => exact op_makeMap hr hf hρ ho he
  | makeSlice t a b => exact op_makeSlice hσ hr hf hρ ho he
  | slice t x a b c => exact op_slice hr hρ ho he
  | fieldAddr t x f => exact op_fieldAddr hr hρ ho he
  | field t x f => exact op_field hr hρ ho he
  | indexAddr t x i => exact op_indexAddr hr hρ ho he
  | index t x i => exact op_index hr hρ ho he
  | lookup t x i ok => exact (op_lookup hr hρ ho he).op hr
  | mapUpdate t m k v => exact op_mapUpdate hr hρ ho he
  | insert t m k v => exact op_insert hr hρ ho he
  | range t x => exact op_range hr hf hρ ho he
  | next x b =>
    cases b with
    | true => exact op_nextS hr hρ ho he
    | false => rw [ho] at he; simp [evOp] at he
  | entry x => exact (op_entry hr hρ ho he).op hr
  | typeAssert x t t' ok => exact op_typeAssert hr hρ ho he
  | extract x i => exact op_extract hr hρ ho he
  | call c =>
    cases hc : c.callee with
    | builtin b => exact op_builtin hσ hc hr hf hρ ho he
    | _ => rw [ho] at he; simp [evOp, evBuiltin, hc] at he
  | _ => rw [ho] at he; simp [evOp] at he

/-- what only reads leaves the world as it is -/
theorem read_ok {r : V × H} (hr : HR P σ φ h w) (hρ : RR σ φ tm ρ) (hf : Fresh φ h.next r.2.next) (o : Oper) (hrd : isRead o = true) (he : evOp P tm h o.op = some r) (hn : r.2.next = h.next) :
    SameOk P σ φ h w (execOp ρ o) r.1 r.2 := by
  cases ho : o.op with
  | load t a => exact op_load hr hρ ho he
  | lookup t x i ok => exact op_lookup hr hρ ho he
  | entry x => exact op_entry hr hρ ho he
  | convert s d x => exact (op_convert hr hf hρ ho he).2 hn
  | call c =>
    cases hc : c.callee with
    | builtin b =>
      simp only [isRead, ho, hc] at hrd
      cases b with
      | len =>
        rw [ho] at he
        simp only [evOp, evBuiltin, hc, Option.bind_eq_some_iff] at he
        obtain ⟨args, hargs, he⟩ := he
        have hvl : VL σ φ args (c.args.map ρ).toList := by
          have := hρ.list hargs
          simpa using this
        have hexec : execOp ρ o = builtin .len c.argTypes o.type (c.args.map fun | .const _ => true | _ => false) (c.args.map ρ) := by
          unfold execOp
          simp only [ho, resolve, hc]
          rfl
        cases hts : c.argTypes.toList with
        | nil => rw [hts] at he; simp [builtinV] at he
        | cons t l =>
          rw [hts] at he
          cases args with
          | nil => simp [builtinV] at he
          | cons x args =>
            cases args with
            | cons y args => simp [builtinV] at he
            | nil =>
              obtain ⟨u, hua, h1⟩ := hvl.one
              rw [hua] at hexec
              simp only [builtinV, Option.bind_eq_some_iff, Option.some.injEq] at he
              obtain ⟨n, hn', rfl⟩ := he
              obtain ⟨u', q1, q2⟩ := b_len (ty := o.type) hts hr h1 hn'
              exact ⟨u', by rw [hexec]; simp [builtin, q1], q2, rfl⟩
      | _ => cases hrd
    | _ => simp [isRead, ho, hc] at hrd
  | _ => simp [isRead, ho] at hrd

end
end Go.Ev
