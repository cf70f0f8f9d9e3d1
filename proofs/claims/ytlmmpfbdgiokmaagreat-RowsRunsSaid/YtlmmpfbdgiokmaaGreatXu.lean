/- Arrays: zeros behind, copying, clearing, making: each operation is sound. -/
import Derived.Test.YtlmmpfbdgiokmaaGreatXt
namespace Go.Proofs.YtlmmpfbdgiokmaaGreat
open Go.RowKit
set_option linter.unusedSimpArgs false
set_option maxRecDepth 100000
set_option linter.unusedVariables false
variable {T : Nat → Type} {A : Type}
section
variable {U : Nat → Prop} {C : Codec T} {N : Nat} {ρ ρ' : Nat → AV} {P : Program} {h h1 : List (HI T)} {d : Option Nat} {ty t t' : TypeId} {pos : String} {af : Array Edge} {g : Option (Nat × Bool)} {z : A} {k : XV T → List (HI T) → Option A} {vs : List (XV T)} {σ τ : St}
theorem snd_apZ {x y : XV T} {ox oy : Operand} (hk : xapZ C P t t' x y h k = some z) : Sound C P U ⟨d, .call ⟨.builtin .append, #[ox, oy], #[t, t']⟩, ty, pos, af, g⟩ [x, y] h k z := by
  unfold xapZ at hk
  split at hk
  rotate_left
  · cases hk
  rename_i e kn he htn
  split at hk
  rotate_left
  · cases hk
  rename_i sz zv by_ hsz hz hby
  split at hk
  rotate_left
  · cases hk
  rename_i hzs
  have hzs := Nat.eq_of_beq_eq_true hzs
  split at hk
  rotate_left
  · cases hk
  rename_i E i lo n c0 kq m
  split at hk
  rotate_left
  · cases hk
  rename_i e' E' kp xs hi
  split at hk
  rotate_left
  · cases hk
  rename_i hc
  simp only [Bool.and_eq_true] at hc
  obtain ⟨⟨⟨c1, c2⟩, e1⟩, hfu⟩ := hc
  have c1 := Nat.eq_of_beq_eq_true c1
  have c2 := Nat.eq_of_beq_eq_true c2
  have e1 := Nat.eq_of_beq_eq_true e1
  subst c1 c2
  split at hk
  rotate_left
  · cases hk
  rename_i hroom
  obtain ⟨b1, b2, b3, b4, b5⟩ := hroom
  rw [hforce_eq] at hk
  have hpos := C.pos E
  obtain ⟨xn, hxn, hsrcx⟩ := xsrc_sound (as_xsrc (C := C) (co := some c0) hi b5)
  injection hxn with hxn
  subst hxn
  have hxl : ((xs.drop lo).take n).length = n := by rw [List.length_take, List.length_drop]; omega
  refine ⟨_, _, hk, fun ρ σ as_ hs H => ?_⟩
  obtain ⟨a, b, rfl, h3, h4⟩ := svs2.1 hs
  rw [sv_int.1 h4]
  obtain ⟨cells, srcx, hxs⟩ := hsrcx ρ σ a h3 H
  rw [hxl] at srcx
  rw [← e1] at srcx
  refine exec_app fun w Z hH hV1 hV2 => ?_
  obtain ⟨M, rfl⟩ : ∃ M : Nat, m = (M : Int) := ⟨m.toNat, by omega⟩
  rw [Int.toNat_natCast]
  rcases sv_as.1 h3 with ⟨ad, c, rfl, hA⟩ | ⟨rfl, hn0, hiN, hρi, hco⟩
  · have hcc := hA.cap c0 rfl
    subst hcc
    have hb4 : (n + M) * by_ ≤ 140737488355328 := by
      have : (((n + M) * by_ : Nat) : Int) ≤ 140737488355328 := by rw [Int.natCast_mul, Int.natCast_add]; exact b4
      omega
    obtain ⟨cap, w', rest, r0, r1, r2, r3, r4, f1, f2, f3, f4⟩ := append_zeros_ (ty := ty) (kq := kq) (m := M) (ad := ad) (c := c) hH hV1 he htn hsz hz hby hzs (by omega) srcx (by simp) (by omega) (by omega) (by unfold maxLen; omega) hb4
    obtain ⟨g1, g2⟩ := H.newArr (U := U) kp f1 f2 e' (E := E) (K := cap) (xs := (xs.drop lo).take n) (pre := cells) (rest := rest) hxs (by rw [r4, e1]) r3 (fun hf => by
      obtain ⟨zt, hzt⟩ := fullOk_sound hfu hf
      exact ⟨_, fun N ρ => by rw [r0, hzs]; exact hzt _ N ρ⟩)
    exact ⟨.raw (.slice (some ⟨w.heap.size, 0, none⟩) (n + M) cap), _, w', by simpa using r1, ⟨_, sv_as.2 (.inl ⟨_, _, rfl, by simp, r2, r3, by omega, ⟨w.heap.size, by rw [Nat.zero_add]; exact rup_same _ _ _, fun _ => by rw [Nat.zero_mul]⟩, fun c' hc => by cases hc⟩), g1, g2⟩, f3, valid_raw _, f4⟩
  · subst hn0
    have hc0 := hco c0 rfl
    subst hc0
    -- nil: a new array of zeros
    have hty := run_slice' he
    obtain ⟨i', hi', hsi⟩ := infoA hsz
    have hzi : i'.zero = some zv := by unfold zeroA at hz; rw [hi'] at hz; simpa using hz
    have hbi : i'.bytes = by_ := by unfold bytesA at hby; rw [hi'] at hby; simpa using hby
    have hb4 : M * by_ ≤ 140737488355328 := by
      have : ((M * by_ : Nat) : Int) ≤ 140737488355328 := by rw [Int.natCast_mul]; simpa using b4
      omega
    have hr := Go.Lib.run_append_grow_zeros (P := P) w t t' ty e' i' zv kq kn hty htn hi' hzi none 0 0 [] (by simp [Builtin.firstCells]) M (by omega) (by omega) (by omega) (by omega) (by rw [hbi]; omega) (growslice_fits (by omega) (by rw [hbi]; simpa using hb4))
    have hge := grownCap_ge w (0 + M) 0 e'
    have hcm := grownCap_le_maxLen w (0 + M) 0 e' (by unfold maxLen; omega)
    generalize grownCap w (0 + M) 0 e' = cap at *
    have hzz : 0 < zv.cells.size := by omega
    have harr : ([] : List Value).toArray ++ Builtin.zeroCells zv.cells M ++ Builtin.zeroCells zv.cells (cap - (0 + M)) = (((List.replicate (M + (cap - (0 + M))) ((List.range zv.cells.size).map fun i => AV.ofV (zv.cells[i % zv.cells.size]!))).flatten).map AV.val).toArray := by
      apply Array.ext'
      rw [← List.replicate_append_replicate, List.flatten_append]
      simp only [Array.toList_append, List.map_append, zeros_val zv M hzz, zeros_val zv (cap - (0 + M)) hzz, List.nil_append]
    rw [harr] at hr
    obtain ⟨f1, f2, f3, f4⟩ := hH.made e' ((List.replicate (M + (cap - (0 + M))) ((List.range zv.cells.size).map fun i => AV.ofV (zv.cells[i % zv.cells.size]!))).flatten) (fun q hq => by
      obtain ⟨l, hl, hal⟩ := List.mem_flatten.1 hq
      have hl := (List.mem_replicate.1 hl).2
      subst hl
      obtain ⟨j, _, rfl⟩ := List.mem_map.1 hal
      exact ofV_valid _)
    have hxe : (xs.drop lo).take 0 = [] := List.take_zero
    have hzl : ((List.replicate (M + (cap - (0 + M))) ((List.range zv.cells.size).map fun i => AV.ofV (zv.cells[i % zv.cells.size]!))).flatten).length = (M + (cap - (0 + M))) * zv.cells.size := by
      have hq := congrArg List.length (zeros_val zv (M + (cap - (0 + M))) hzz)
      rw [List.length_map] at hq
      rw [hq]
      simp [size_zeroCells]
    obtain ⟨g1, g2⟩ := H.newArr (U := U) kp f1 f2 e' (E := E) (K := cap) (xs := (xs.drop lo).take 0) (pre := []) (rest := (List.replicate (M + (cap - (0 + M))) ((List.range zv.cells.size).map fun i => AV.ofV (zv.cells[i % zv.cells.size]!))).flatten) (fun _ _ => by rw [hxe]; exact .none) (by
      rw [List.nil_append, hzl, hzs, e1]
      congr 1
      omega) hcm (fun hf => by
      obtain ⟨zt, hzt⟩ := fullOk_sound hfu hf
      exact ⟨_, fun N ρ => by rw [hzs]; exact hzt _ N ρ⟩)
    refine ⟨.raw (.slice (some ⟨w.heap.size, 0, none⟩) (0 + M) cap), _, _, by simpa using hr, ⟨_, sv_as.2 (.inl ⟨_, _, rfl, by simp, hge, hcm, by omega, ⟨w.heap.size, by rw [Nat.zero_add]; exact rup_same _ _ _, fun _ => by rw [Nat.zero_mul]⟩, fun c' hc => by cases hc⟩), g1, g2⟩, f3, valid_raw _, f4⟩
theorem nil_arr_ {i e E : Nat} {kp : Bool} {xs : List (T E)} (H : Hp C ρ h σ) (hi : h[i]? = some (.arr e E kp xs)) (hρ : ρ i = .lst none 0 0 []) : xs = [] := by
  rcases H.it i _ hi with ⟨b', K, pre, rest, q1, _⟩ | ⟨_, q⟩
  · rw [hρ] at q1; cases q1
  · exact q
theorem snd_copy {x y : XV T} {ox oy : Operand} (hU0 : ∀ E i lo n co, x = .as E i lo n co → U i) (hk : xcopy C P t x y h k = some z) : Sound C P U ⟨d, .call ⟨.builtin .copy, #[ox, oy], #[t, t']⟩, ty, pos, af, g⟩ [x, y] h k z := by
  unfold xcopy at hk
  split at hk
  · cases hk
  rename_i e he
  split at hk
  rotate_left
  · cases hk
  rename_i sz hsz
  split at hk
  rotate_left
  · cases hk
  rename_i E i lo n co
  have hU := hU0 _ _ _ _ _ rfl
  split at hk
  rotate_left
  · cases hk
  rename_i e' E' kp xs hi
  split at hk
  rotate_left
  · cases hk
  rename_i hc
  simp only [Bool.and_eq_true] at hc
  obtain ⟨⟨c1, c2⟩, e1⟩ := hc
  have c1 := Nat.eq_of_beq_eq_true c1
  have c2 := Nat.eq_of_beq_eq_true c2
  have e1 := Nat.eq_of_beq_eq_true e1
  subst c1 c2
  obtain ⟨ys, hk2, hsrc⟩ := xsrc_sound hk
  clear hk
  have hk := hk2
  clear hk2
  split at hk
  rotate_left
  · cases hk
  rename_i hlo
  rw [hforce_eq] at hk
  have hpos := C.pos E
  refine ⟨_, _, hk, fun ρ σ as_ hs H => ?_⟩
  obtain ⟨a, b, rfl, h3, h4⟩ := svs2.1 hs
  obtain ⟨news, src, hys⟩ := hsrc ρ σ b h4 H
  have htk : (ys.take n).length = min ys.length n := by rw [List.length_take]; omega
  refine .inr ⟨rfl, fun ρv hρ w Z hH hV => ?_⟩
  have hρ' := hρ
  simp [Op.operands, Call.operands] at hρ'
  rcases sv_as.1 h3 with ⟨ad, c, rfl, hA⟩ | ⟨rfl, hn0, hiN, hρi, hco⟩
  · obtain ⟨bb, q1, q2⟩ := hA.at_
    obtain ⟨pre, rest, hb2, hb3, hb4, hb5, hb6⟩ := H.arrAt hi q1
    have hle := hA.le
    have hm1 : (lo + n) * C.sz E ≤ (lo + c) * C.sz E := Nat.mul_le_mul_right _ (by omega)
    rw [← e1] at src
    obtain ⟨w', r1, r2, r3⟩ := copy_ (t' := t') (ty := ty) (lo := lo) (n := n) (c := c) hH (hV b (by simp)) he hsz (by omega) hb2 (by rw [hb5, e1]; exact hm1) (by rw [e1]; exact fun h0 => q2 (by omega)) src
    rw [e1] at r2 r3
    have hst : ∀ N ρ, SVs C N ρ ((ys.take n).flatMap (C.enc E)) (news.take (min ys.length n * C.sz E)) := fun N ρ => by
      have := (hys N ρ).take (min ys.length n * C.sz E)
      rw [enc_take] at this
      have hmin : ys.take (min ys.length n) = ys.take n := by
        rw [Nat.min_comm, List.take_eq_take_iff]
        omega
      rw [hmin] at this
      exact this
    obtain ⟨g1, g2⟩ := H.spliceArr hU hi q1 hb2 hlo hst (by rw [htk]; omega)
    rw [htk] at g1 g2
    refine ⟨.raw (goInt ((min ys.length n : Nat) : Int)), _, w', .inl ?_, ⟨ρ, sv_int.2 rfl, g1, g2⟩, r2, valid_raw _, r3⟩
    simp only [AV.val_raw] at hρ' r1
    simp [execOp, resolve, invoke, builtin, hρ', r1]
  · subst hn0
    have hxs := nil_arr_ H hi hρi
    subst hxs
    have hset : h.set i (.arr e' E kp (List.take lo [] ++ ys.take 0 ++ List.drop (lo + min ys.length 0) [])) = h := by
      simp only [List.take_nil, List.drop_nil, List.append_nil, List.take_zero]
      exact set_get_ hi
    rw [hset]
    obtain ⟨A', c', hy, hA'⟩ := src.at_
    obtain ⟨ii, hii, hsi⟩ := infoA hsz
    have hf := run_first_none_ (P := P) (w := w) (size := ii.size) (n := 0) (len := ys.length) (cap := c') rfl A'
    refine ⟨.raw (goInt ((min ys.length 0 : Nat) : Int)), σ, w, .inl ?_, ⟨ρ, sv_int.2 rfl, H, .refl _ _ _ _⟩, hH, valid_raw _, Grow.refl _ _⟩
    rw [hy] at hρ'
    simp only [AV.val_lst] at hρ'
    simp [execOp, resolve, invoke, builtin, hρ', Builtin.copy_, run_underlying (run_slice' he), sizeOf, typeInfo, hii, Builtin.lenOf, hf]
theorem flat_rep_len {α : Type} (n : Nat) (l : List α) : ((List.replicate n l).flatten).length = n * l.length := by
  induction n with
  | zero => simp
  | succ n ih => rw [List.replicate_succ, List.flatten_cons, List.length_append, ih, Nat.succ_mul]; omega
theorem ofV1_one {v : Value} (hv : v.oneCell' = true) : (AV.ofV v).one = true := by
  unfold AV.ofV
  split
  · rename_i cs; simp [Value.oneCell'] at hv
  · unfold AV.ofV1
    split
    · rfl
    · exact hv
theorem snd_clear {x : XV T} {ox : Operand} (hU0 : ∀ E i lo n co, x = .as E i lo n co → U i) (hk : xclear C P t x h k = some z) : Sound C P U ⟨d, .call ⟨.builtin .clear, #[ox], #[t]⟩, ty, pos, af, g⟩ [x] h k z := by
  unfold xclear at hk
  split at hk
  · cases hk
  rename_i e he
  split at hk
  rotate_left
  · cases hk
  rename_i sz zv hsz hz
  split at hk
  rotate_left
  · cases hk
  rename_i hzs
  have hzs := Nat.eq_of_beq_eq_true hzs
  split at hk
  rotate_left
  · cases hk
  rename_i E i lo n co
  have hU := hU0 _ _ _ _ _ rfl
  split at hk
  rotate_left
  · cases hk
  rename_i e' E' kp xs hi
  split at hk
  rotate_left
  · cases hk
  rename_i hc
  simp only [Bool.and_eq_true] at hc
  obtain ⟨⟨c1, c2⟩, e1⟩ := hc
  have c1 := Nat.eq_of_beq_eq_true c1
  have c2 := Nat.eq_of_beq_eq_true c2
  have e1 := Nat.eq_of_beq_eq_true e1
  subst c1 c2
  obtain ⟨zt, hk2, hzt⟩ := xzero_sound hk
  clear hk
  have hk := hk2
  clear hk2
  split at hk
  rotate_left
  · cases hk
  rename_i hlo
  rw [hforce_eq] at hk
  have hpos := C.pos E
  refine ⟨_, _, hk, fun ρ σ as_ hs H => ?_⟩
  obtain ⟨a, rfl, h3⟩ := svs1.1 hs
  refine .inr ⟨rfl, fun ρv hρ w Z hH hV => ?_⟩
  have hρ' := hρ
  simp [Op.operands, Call.operands] at hρ'
  have hv := zeros_val zv n (by omega)
  rw [hzs] at hv
  rcases sv_as.1 h3 with ⟨ad, c, rfl, hA⟩ | ⟨rfl, hn0, hiN, hρi, hco⟩
  · obtain ⟨bb, q1, q2⟩ := hA.at_
    obtain ⟨pre, rest, hb2, hb3, hb4, hb5, hb6⟩ := H.arrAt hi q1
    have hle := hA.le
    have hm1 : (lo + n) * C.sz E ≤ (lo + c) * C.sz E := Nat.mul_le_mul_right _ (by omega)
    have hones := (hzt n h.length ρ).ones fun v hv => closed_one (enc_shut _ v hv)
    obtain ⟨w', r1, r2, r3⟩ := clear_ (P := P) (t := t) (ty := ty) (lo := lo) (n := n) (c := c) (ad := ad) hH he hz hzs (by omega) hb2 (by rw [hb5, e1]; exact hm1) (by rw [e1]; exact fun h0 => q2 (by omega)) hv hones (fun a ha => by
      obtain ⟨l, hl, hal⟩ := List.mem_flatten.1 ha
      have hl := (List.mem_replicate.1 hl).2
      subst hl
      obtain ⟨j, _, rfl⟩ := List.mem_map.1 hal
      exact ofV_valid _)
    rw [e1] at r2 r3
    obtain ⟨g1, g2⟩ := H.spliceArr (ys := List.replicate n zt) hU hi q1 hb2 hlo (fun N ρ => by have := hzt n N ρ; rw [e1] at this; exact this) (by rw [List.length_replicate]; omega)
    rw [List.length_replicate] at g1 g2
    refine ⟨.raw (.tuple #[]), _, w', .inl ?_, ⟨ρ, sv_junk, g1, g2⟩, r2, valid_raw _, r3⟩
    simp only [AV.val_raw] at hρ' r1
    simp [execOp, resolve, invoke, builtin, hρ', r1]
  · subst hn0
    have hxs := nil_arr_ H hi hρi
    subst hxs
    have hset : h.set i (.arr e' E kp (List.take lo [] ++ List.replicate 0 zt ++ List.drop (lo + 0) [])) = h := by
      simp only [List.take_nil, List.drop_nil, List.append_nil, List.replicate_zero]
      exact set_get_ hi
    rw [hset]
    refine ⟨.raw (.tuple #[]), σ, w, .inl ?_, ⟨ρ, sv_junk, H, .refl _ _ _ _⟩, hH, valid_raw _, Grow.refl _ _⟩
    simp only [AV.val_lst] at hρ'
    simp [execOp, resolve, invoke, builtin, hρ', Builtin.clear_, run_underlying (run_slice' he)]
theorem snd_make {x y : XV T} {ox oy : Operand} (hk : xmake C P t x y h k = some z) : Sound C P U ⟨d, .makeSlice t ox oy, ty, pos, af, g⟩ [x, y] h k z := by
  unfold xmake at hk
  split at hk
  · cases hk
  rename_i e he
  split at hk
  rotate_left
  · cases hk
  rename_i sz zv by_ E hsz hz hby hE
  split at hk
  rotate_left
  · cases hk
  rename_i hc
  simp only [Bool.and_eq_true] at hc
  have hzs := Nat.eq_of_beq_eq_true hc.1
  have e1 := Nat.eq_of_beq_eq_true hc.2
  split at hk
  rotate_left
  · cases hk
  rename_i kl l kc c
  split at hk
  rotate_left
  · cases hk
  rename_i hb
  obtain ⟨b1, b2, b3, b4⟩ := hb
  obtain ⟨zt, hk2, hzt⟩ := xzero_sound hk
  clear hk
  have hk := hk2
  clear hk2
  rw [hforce_eq] at hk
  have hpos := C.pos E
  refine ⟨_, _, hk, fun ρ σ as_ hs H => ?_⟩
  obtain ⟨a, b, rfl, h3, h4⟩ := svs2.1 hs
  rw [sv_int.1 h3, sv_int.1 h4]
  refine .inr ⟨rfl, fun ρv hρ w Z hH hV => ?_⟩
  have hρ' := hρ
  simp [Op.operands] at hρ'
  have hty := run_slice' he
  obtain ⟨i, hi, hsi⟩ := infoA hsz
  have hzi : i.zero = some zv := by unfold zeroA at hz; rw [hi] at hz; simpa using hz
  have hbi : i.bytes = by_ := by unfold bytesA at hby; rw [hi] at hby; simpa using hby
  have hr := run_make (P := P) w t e i zv hty hi hzi kl kc l c b1 b2 (by rw [hbi]; omega) (by omega)
  have hv := zeros_val zv c.toNat (by omega)
  rw [hzs] at hv
  have harr : madeCells zv.cells (c.toNat * i.size) = ((((List.replicate c.toNat ((List.range sz).map fun i => AV.ofV (zv.cells[i % sz]!))).flatten)).map AV.val).toArray := by
    rw [hv]
    simp [madeCells, Builtin.zeroCells, hsi, hzs]
    apply Array.ext'
    simp
  rw [harr] at hr
  obtain ⟨f1, f2⟩ := hH.fresh
  have f3 := hH.alloc_own e ((List.replicate c.toNat ((List.range sz).map fun i => AV.ofV (zv.cells[i % sz]!))).flatten) (fun a ha => by
    obtain ⟨l, hl, hal⟩ := List.mem_flatten.1 ha
    have hl := (List.mem_replicate.1 hl).2
    subst hl
    obtain ⟨j, _, rfl⟩ := List.mem_map.1 hal
    exact ofV_valid _)
  have f4 := Grow.alloc hH (.cells ((((List.replicate c.toNat ((List.range sz).map fun i => AV.ofV (zv.cells[i % sz]!))).flatten)).map AV.val).toArray e) (.own e ((List.replicate c.toNat ((List.range sz).map fun i => AV.ofV (zv.cells[i % sz]!))).flatten))
  obtain ⟨g1, g2⟩ := H.newArr (U := U) true f1 f2 e (E := E) (K := c.toNat) (xs := List.replicate c.toNat zt) (pre := (List.replicate c.toNat ((List.range sz).map fun i => AV.ofV (zv.cells[i % sz]!))).flatten) (rest := []) (fun N ρ => hzt c.toNat N ρ) (by rw [List.append_nil, flat_rep_len, List.length_map, List.length_range, e1]) (by unfold maxLen; omega) (fun _ => ⟨[], fun _ _ => .none⟩)
  rw [List.append_nil] at g1 g2
  refine ⟨.raw (.slice (some ⟨w.heap.size, 0, none⟩) l.toNat c.toNat), _, _, .inl ?_, ⟨_, sv_as.2 (.inl ⟨_, _, rfl, by simp, by omega, by unfold maxLen; omega, by omega, ⟨w.heap.size, by rw [Nat.zero_add]; exact rup_same _ _ _, fun _ => by rw [Nat.zero_mul]⟩, fun c' hc => by injection hc⟩), g1, g2⟩, f3, valid_raw _, f4⟩
  simp [execOp, hρ', hr]
theorem snd_cap {ts : Array TypeId} {as_ : Array Operand} {E i lo n c : Nat} {e : TypeId} (hts : ts[0]? = some t) (he : sliceA P t = some e) (hk : k (.int .i64 (c : Nat)) h = some z) (has : as_.size = 1) : Sound C P U ⟨d, .call ⟨.builtin .cap, as_, ts⟩, ty, pos, af, g⟩ [.as E i lo n (some c)] h k z := by
  refine ⟨_, h, hk, OpTr.same fun ρ σ vs K hs H hK => ?_⟩
  obtain ⟨a, rfl, h3⟩ := svs1.1 hs
  refine .inl ⟨.int .i64 (c : Nat), fun ρ' hρ w => ?_, hK _ (sv_int.2 rfl)⟩
  have hav : ∃ A, a.val = .slice A n c := by
    rcases sv_as.1 h3 with ⟨ad, c', rfl, hA⟩ | ⟨rfl, hn0, hiN, hρi, hco⟩
    · rw [← hA.cap c rfl]; exact ⟨some ad, by simp⟩
    · rw [hn0, hco c rfl]; exact ⟨none, by simp⟩
  obtain ⟨A, hA⟩ := hav
  have hts' : ts.toList[0]? = some t := by rw [← hts]; simp
  simp [Op.operands, Call.operands, hA] at hρ
  obtain ⟨q, hq, hρ⟩ := hρ
  have hq' : as_ = #[q] := by
    cases as_
    simpa using hq
  subst hq'
  simp [execOp, resolve, invoke, builtin, Builtin.cap_, hρ, hts, run_underlying (run_slice' he), goInt]
end
end Go.Proofs.YtlmmpfbdgiokmaaGreat
