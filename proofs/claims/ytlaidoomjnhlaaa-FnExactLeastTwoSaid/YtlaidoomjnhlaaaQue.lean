/-
  A queue of arrays of four numbers: a slice that loses its first element and is appended to.
  No condition.
-/
import Derived.Test.YtlaidoomjnhlaaaArr
namespace Go.Proofs.Ytlaidoomjnhlaaa
open Go.RowKit Go.Sort base
theorem arr_info : (Try.prog.info? 35).map (fun i => (i.zero, i.size, i.bytes)) = some (some (.agg #[.int .i64 0, .int .i64 0, .int .i64 0, .int .i64 0]), 4, 32) := by kernel_rfl
/-- the q-th cell of the tables from k on -/
def cq (k q : Nat) : Value := .int .i64 (at4 (tab4 (k + q / 4)) (q % 4) : Int)
theorem cq_next (k q : Nat) : cq k (q + 4) = cq (k + 1) q := by
  unfold cq
  rw [show (q + 4) / 4 = q / 4 + 1 by omega, show (q + 4) % 4 = q % 4 by omega, show k + (q / 4 + 1) = k + 1 + q / 4 by omega]
theorem cq_at (k n j : Nat) (hj : j < 4) : cq k (n * 4 + j) = .int .i64 (at4 (tab4 (k + n)) j : Int) := by
  unfold cq
  rw [show (n * 4 + j) / 4 = n by omega, show (n * 4 + j) % 4 = j by omega]
/-- the tables from k to L - 1 wait -/
def Que (w : World) (base : Nat) (v : Value) (k L : Nat) : Prop := ∃ g o n cap cur, v = .slice (some ⟨g, o, none⟩) n cap ∧ k + n = L ∧ base ≤ g ∧ w.heap[g]? = some (.cells cur 35 (0, 0)) ∧ n ≤ cap ∧ cap ≤ maxLen ∧ o + cap * 4 ≤ cur.size ∧ ∀ q, q < n * 4 → cur[o + q]? = some (cq k q)
section
variable {w w' : World} {base k L : Nat} {v : Value}
theorem Que.lt (h : Que w base v k L) : ∀ g, v.ownBlock = some g → base ≤ g ∧ g < w.heap.size := by
  obtain ⟨g, o, n, cap, cur, rfl, _, hb, hg, _⟩ := h
  intro g' e
  simp [Value.ownBlock] at e
  subst e
  exact ⟨hb, (Array.getElem?_eq_some_iff.1 hg).1⟩
theorem Que.kept {row : Option Nat} (h : Que w base v k L) (hg : w.grownBy w' row) (hne : v.ownBlock ≠ row) : Que w' base v k L := by
  obtain ⟨g, o, n, cap, cur, rfl, e, hb, hgg, r⟩ := h
  refine ⟨g, o, n, cap, cur, rfl, e, hb, ?_, r⟩
  rw [hg.block g (Array.getElem?_eq_some_iff.1 hgg).1 (by simpa [Value.ownBlock] using hne)]
  exact hgg
theorem Que.own (h : Que w base v k L) : v.ownBlock ≠ none := by
  obtain ⟨g, o, n, cap, cur, rfl, _⟩ := h
  simp [Value.ownBlock]
theorem Que.below (h : Que w base v k L) (hb : Below w.heap.size w w') : Que w' base v k L := h.kept (grown_of_below hb none) h.own
/-- the first table -/
theorem Que.at_ (h : Que w base v k L) (hk : k < L) : ∃ g o cap, v = .slice (some ⟨g, o, none⟩) (L - k) cap ∧ (∀ j, j < 4 → w.cell? ⟨g, o + j, none⟩ = some (.int .i64 (at4 (tab4 k) j : Int))) := by
  obtain ⟨g, o, n, cap, cur, rfl, e, hb, hg, _, _, _, hc⟩ := h
  refine ⟨g, o, cap, by rw [show L - k = n by omega], fun j hj => ?_⟩
  rw [cell_of_row w g (o + j) cur _ _ hg, hc j (by omega)]
  have := cq_at k 0 j hj
  rw [Nat.zero_mul, Nat.zero_add, Nat.add_zero] at this
  rw [this]
theorem arr_size (w : World) : (sizeOf 35).run Try.prog w = .ok 4 w := by
  obtain ⟨i0, hi, hz0, hz1, hz2⟩ := info_parts arr_info
  simp [sizeOf, typeInfo, hi, hz1]
/-- 'waiting[1:]' -/
theorem Que.pop (h : Que w base v k L) (hk : k < L) : ∃ v', (∀ W, (Instr.slice 37 v (some (.int .i64 1)) none none).run Try.prog W = .ok v' W) ∧ Que w base v' (k + 1) L ∧ v'.ownBlock = v.ownBlock := by
  obtain ⟨g, o, n, cap, cur, rfl, e, hb, hg, hn, hm, hs, hc⟩ := h
  have h1 : (0 : Int) ≤ 1 := by omega
  have h2 : (1 : Int) ≤ (n : Int) := by omega
  by_cases h1c : cap = 1
  · subst h1c
    obtain rfl : n = 1 := by omega
    refine ⟨.slice (some ⟨g, o, none⟩) 0 0, fun W => ?_, ⟨g, o, 0, 0, cur, rfl, by omega, hb, hg, Nat.le_refl _, by omega, by omega, fun q hq => by omega⟩, rfl⟩
    simp [Instr.slice, run_underlying Try.underlying37, Instr.sliceBounds, run_sliceBound _ _ _ _ h1 h2, arr_size, go_sem]
  · refine ⟨.slice (some ⟨g, o + 4, none⟩) (n - 1) (cap - 1), fun W => ?_, ⟨g, o + 4, n - 1, cap - 1, cur, rfl, by omega, hb, hg, by omega, by omega, by omega, fun q hq => ?_⟩, rfl⟩
    · simp [Instr.slice, run_underlying Try.underlying37, Instr.sliceBounds, run_sliceBound _ _ _ _ h1 h2, arr_size, go_sem, h1c, Addr.add_lit]
      exact fun h => absurd h (by omega)
    · rw [show o + 4 + q = o + (q + 4) by omega, hc (q + 4) (by omega), cq_next]
end
theorem run_append_off {P : Program} (w : World) (t ty e : TypeId) (i : TypeInfo) (ht : P.underlying t = some (.slice e)) (hi : P.info? e = some i)
    (g o sLen sCap : Nat) (cur : Array Value) (hg : w.heap[g]? = some (.cells cur e (0, 0)))
    (a : Addr) (m c : Nat) (news : List Value) (hl : news.length = m * i.size) (hnews : ∀ j u, news[j]? = some u → w.cell? (a.add j) = some u) (h1 : ∀ u ∈ news, u.oneCell' = true)
    (hroom : sLen + m ≤ sCap) (hfit : o + sLen * i.size + news.length ≤ cur.size) :
    (Builtin.append_ #[t, t] ty #[.slice (some ⟨g, o, none⟩) sLen sCap, .slice (some a) m c]).run P w =
      .ok (.slice (some ⟨g, o, none⟩) (sLen + m) sCap) (w.setRow g (cur.toList.take (o + sLen * i.size) ++ news ++ cur.toList.drop (o + sLen * i.size + news.length)).toArray) := by
  have hf := run_firstCells_some (P := P) w i.size m a m c news hl hnews
  have hst := run_storeCells_at P g (o + sLen * i.size) e news 0 cur w hg (by simpa using hfit) h1
  simp only [Nat.add_zero] at hst
  simp [Builtin.append_, run_underlying ht, sizeOf, typeInfo, hi, Builtin.lenOf, hroom, hf, Addr.add_lit, hst]
def tcells (t : T4) : List Value := [.int .i64 (at4 t 0 : Int), .int .i64 (at4 t 1 : Int), .int .i64 (at4 t 2 : Int), .int .i64 (at4 t 3 : Int)]
theorem tcells_at (k n : Nat) {j : Nat} (hj : j < 4) : (tcells (tab4 (k + n)))[j]? = some (cq k (n * 4 + j)) := by
  rw [cq_at k n j hj]
  rcases (show j = 0 ∨ j = 1 ∨ j = 2 ∨ j = 3 by omega) with rfl | rfl | rfl | rfl <;> rfl
theorem wpList_append_que {ops : Array Oper} {rest : List Oper} {o : Oper} {a : Act} {Q : Exit → Act → World → Prop} {w : World} {base k L : Nat} {v : Value} {t : T4} (h : Que w base v k L) (e : tab4 L = t) (hbase : base ≤ w.heap.size) (s y : Operand) (hw : Region.wanted o (yielded ops a.tmps) = true)
    (ho : o.op = .call { callee := .builtin .append, args := #[s, y], argTypes := #[37, 37] }) (hs : a.eval s = v) (hx : a.eval y = .slice (some ⟨w.heap.size, 0, none⟩) 1 1)
    (hl : L ≤ 1000)
    (hK : ∀ v' w', Que w' base v' k (L + 1) → w.grownBy w' v.ownBlock → Fresh v v' w.heap.size → wpList Try.prog ops Q rest (a.put o.dst v') w') : wpList Try.prog ops Q (o :: rest) a (w.alloc (.cells #[.int .i64 (at4 t 0 : Int), .int .i64 (at4 t 1 : Int), .int .i64 (at4 t 2 : Int), .int .i64 (at4 t 3 : Int)] 35)) := by
  obtain ⟨i0, hi, hz0, hz1, hz2⟩ := info_parts arr_info
  obtain ⟨g, off, n, cap, cur, rfl, hn, hb, hg, hnc, hm, hsz, hc⟩ := h
  subst hn
  have hgl : g < w.heap.size := (Array.getElem?_eq_some_iff.1 hg).1
  obtain ⟨W, hW⟩ : ∃ W, W = w.alloc (.cells (tcells t).toArray 35) := ⟨_, rfl⟩
  have hg1 : W.heap[g]? = some (.cells cur 35 (0, 0)) := by rw [hW, Below.heap_alloc w _ g hgl]; exact hg
  have hgW : ∀ row, w.grownBy W row := fun row => by rw [hW]; exact World.grownBy_alloc w _ row
  have hsW : W.heap.size = w.heap.size + 1 := by rw [hW]; simp
  have hnews : ∀ j u, (tcells t)[j]? = some u → W.cell? ((⟨w.heap.size, 0, none⟩ : Addr).add j) = some u := fun j u hu => by
    rw [hW, Addr.add_lit, Nat.zero_add, World.cell?_alloc_at _ _ _ _ rfl]
    simpa using hu
  have key : ∃ v' w', (Builtin.append_ #[37, 37] o.type #[.slice (some ⟨g, off, none⟩) n cap, .slice (some ⟨w.heap.size, 0, none⟩) 1 1]).run Try.prog W = .ok v' w' ∧ Que w' base v' k (k + n + 1) ∧ w.grownBy w' (some g) ∧ Fresh (.slice (some ⟨g, off, none⟩) n cap) v' w.heap.size := by
    by_cases hroom : n + 1 ≤ cap
    · have hr := run_append_off (P := Try.prog) W 37 o.type 35 i0 Try.underlying37 hi g off n cap cur hg1 ⟨w.heap.size, 0, none⟩ 1 1 (tcells t) (by rw [hz1]; rfl) hnews (by simp [tcells, Value.oneCell']) hroom (by rw [hz1]; simp [tcells]; omega)
      refine ⟨_, _, hr, ⟨g, off, n + 1, cap, _, rfl, by omega, hb, setRow_heap W g cur _ _ _ hg1, hroom, hm, ?_, fun q hq => ?_⟩, grown_seq (hgW _) ⟨rfl, rfl, rfl, by simp, fun x _ hx => setRow_other W g x _ (fun e => hx (by rw [e]))⟩, .inl rfl⟩
      · simp [tcells, hz1]; omega
      · rw [hz1, List.getElem?_toArray]
        have hl1 : (cur.toList.take (off + n * 4)).length = off + n * 4 := by simp; omega
        by_cases hq1 : q < n * 4
        · rw [List.append_assoc, List.getElem?_append_left (by omega), List.getElem?_take_of_lt (by omega), Array.getElem?_toList]
          exact hc q hq1
        · obtain ⟨j, rfl⟩ : ∃ j, q = n * 4 + j := ⟨q - n * 4, by omega⟩
          rw [List.append_assoc, List.getElem?_append_right (by omega), hl1, show off + (n * 4 + j) - (off + n * 4) = j by omega, List.getElem?_append_left (by simp [tcells]; omega), ← e]
          exact tcells_at k n (by omega)
    · have hcap : cap = n := by omega
      have hold : ((List.range (n * 4)).map (cq k)).length = n * i0.size := by rw [hz1]; simp
      have hr := run_append_grow (P := Try.prog) W 37 o.type 35 i0 _ Try.underlying37 hi hz0 ⟨g, off, none⟩ n cap ((List.range (n * 4)).map (cq k)) hold (fun j u hu => by
        obtain ⟨hj, rfl⟩ := List.getElem?_eq_some_iff.1 hu
        simp only [List.length_map, List.length_range] at hj
        rw [Addr.add_lit, cell_of_row W g (off + j) cur _ _ hg1, hc j hj]
        simp) ⟨w.heap.size, 0, none⟩ 1 1 (tcells t) (by rw [hz1]; rfl) hnews (by omega) (by omega) (growslice_fits (by omega) (by rw [hz2]; omega))
      obtain ⟨C, hC⟩ : ∃ C, C = grownCap W (n + 1) cap 35 := ⟨_, rfl⟩
      have hge : n + 1 ≤ C := by rw [hC]; exact grownCap_ge W (n + 1) cap _
      have hle : C ≤ maxLen := by rw [hC]; exact grownCap_le_maxLen W (n + 1) cap _ (by unfold maxLen; omega)
      rw [← hC] at hr
      refine ⟨_, _, hr, ⟨W.heap.size, 0, n + 1, C, _, rfl, by omega, by omega, heap_alloc_new W.drew _, hge, hle, ?_, fun q hq => ?_⟩, grown_seq (hgW _) ⟨rfl, rfl, rfl, by simp, fun x hx _ => Below.heap_alloc W.drew _ x hx⟩, .inr ⟨W.heap.size, rfl, by omega⟩⟩
      · simp only [Array.size_append, List.size_toArray, size_zeroCells, List.length_map, List.length_range]
        simp [tcells, Value.cells]
        omega
      · rw [Nat.zero_add]
        have hlen : ((List.range (n * 4)).map (cq k)).toArray.size = n * 4 := by simp
        by_cases hq1 : q < n * 4
        · rw [Array.append_assoc, Array.getElem?_append_left (by omega)]
          simp [hq1]
        · obtain ⟨j, rfl⟩ : ∃ j, q = n * 4 + j := ⟨q - n * 4, by omega⟩
          rw [Array.append_assoc, Array.getElem?_append_right (by omega), hlen, show n * 4 + j - n * 4 = j by omega, Array.getElem?_append_left (by simp [tcells]; omega), List.getElem?_toArray, ← e]
          exact tcells_at k n (by omega)
  obtain ⟨v', w', h1, h2, h3, h4⟩ := key
  refine wpList_step fun _ hQ => by
    rw [if_pos hw]
    have hW' : w.alloc (.cells #[.int .i64 (at4 t 0 : Int), .int .i64 (at4 t 1 : Int), .int .i64 (at4 t 2 : Int), .int .i64 (at4 t 3 : Int)] 35) = W := hW.symm
    rw [hW']
    exact Lib.wp_append_run _ s y _ _ ho _ _ hs hx v' w' h1 (hQ _ _ (hK v' w' h2 h3 h4))
end Go.Proofs.Ytlaidoomjnhlaaa
