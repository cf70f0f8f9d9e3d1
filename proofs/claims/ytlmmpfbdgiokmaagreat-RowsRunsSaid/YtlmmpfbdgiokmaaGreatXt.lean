/- Arrays: appending, copying, clearing, making: each operation is sound. -/
import Derived.Test.YtlmmpfbdgiokmaaGreatXs
namespace Go.Proofs.YtlmmpfbdgiokmaaGreat
open Go.RowKit
set_option linter.unusedSimpArgs false
set_option maxRecDepth 100000
set_option linter.unusedVariables false
variable {T : Nat → Type} {A : Type}
section
variable {U : Nat → Prop} {C : Codec T} {N : Nat} {ρ ρ' : Nat → AV} {P : Program} {h h1 : List (HI T)} {d : Option Nat} {ty t t' : TypeId} {pos : String} {af : Array Edge} {g : Option (Nat × Bool)} {z : A} {k : XV T → List (HI T) → Option A} {vs : List (XV T)} {σ τ : St}
/-- Elements laid over an array. -/
theorem Hp.spliceArr (H : Hp C ρ h σ) {i : Nat} (hU : U i) {e : TypeId} {E : Nat} {kp : Bool} {xs ys : List (T E)} (hi : h[i]? = some (.arr e E kp xs)) {b K lo : Nat} (hb : ρ i = ab b K) {cs news : List AV} (hcs : σ.blk b = some (.own e cs)) (hlo : lo ≤ xs.length) (hys : ∀ N ρ, SVs C N ρ (ys.flatMap (C.enc E)) news) (hfit : lo + ys.length ≤ K) :
    Hp C ρ (h.set i (.arr e E kp (xs.take lo ++ ys ++ xs.drop (lo + ys.length)))) (σ.set b (.own e (splice cs (lo * C.sz E) news))) ∧ Rel U ρ h σ ρ (h.set i (.arr e E kp (xs.take lo ++ ys ++ xs.drop (lo + ys.length)))) (σ.set b (.own e (splice cs (lo * C.sz E) news))) := by
  obtain ⟨pre, rest, hb2, hb3, hb4, hb5, hb6, hb7⟩ := H.arrAt hi hb
  rw [hcs] at hb2
  injection hb2 with hb2
  injection hb2 with _ hb2
  subst hb2
  have hpl := (hb4 h.length ρ).len
  have hnl := (hys h.length ρ).len
  rw [enc_len] at hpl hnl
  have hm1 : lo * C.sz E ≤ xs.length * C.sz E := Nat.mul_le_mul_right _ hlo
  have hm2 : (lo + ys.length) * C.sz E ≤ K * C.sz E := Nat.mul_le_mul_right _ hfit
  rw [splice_arr pre rest news (by omega)]
  refine H.writeArr hU hi hb (fun N ρ => ?_) ?_ (fun hf => ?_)
  · rw [List.flatMap_append, List.flatMap_append]
    have p1 := (hb4 N ρ).take (lo * C.sz E)
    have p3 := (hb4 N ρ).drop ((lo + ys.length) * C.sz E)
    rw [enc_take] at p1
    rw [enc_drop, Nat.add_mul, ← hnl] at p3
    exact (p1.app (hys N ρ)).app p3
  · rw [Nat.add_mul] at hm2
    simp only [List.length_append, List.length_take, List.length_drop] at hb5 ⊢
    omega
  · obtain ⟨zs, hzs⟩ := hb7 hf
    refine ⟨zs.drop (lo + ys.length - xs.length), fun N ρ => ?_⟩
    have p := (hzs N ρ).drop ((lo + ys.length - xs.length) * C.sz E)
    rw [enc_drop] at p
    have he : lo * C.sz E + news.length - pre.length = (lo + ys.length - xs.length) * C.sz E := by rw [hpl, hnl, Nat.sub_mul, Nat.add_mul]
    rw [he]
    exact p
/-- Less of an array is known. -/
theorem Hp.cutArr (H : Hp C ρ' h1 τ) (R : Rel U ρ h σ ρ' h1 τ) {i : Nat} {e : TypeId} {E : Nat} {kp : Bool} {xs zs : List (T E)} (hi : h1[i]? = some (.arr e E kp (xs ++ zs))) :
    Hp C ρ' (h1.set i (.arr e E kp xs)) τ ∧ Rel U ρ h σ ρ' (h1.set i (.arr e E kp xs)) τ := by
  have hl : (h1.set i (HI.arr e E kp xs)).length = h1.length := by simp
  have hi0 := H.it i _ hi
  refine ⟨⟨fun j x hx => ?_, fun j k x y c hx hy ax ay bx by_ => ?_⟩, ⟨by rw [hl]; exact R.len, R.ext, R.but, fun c ⟨j, x, hx, ax, bx⟩ => ?_⟩⟩
  · rw [hl]
    rcases get_set hx with ⟨e1, e2, _⟩ | ⟨_, hx⟩
    · subst e1 e2
      rcases hi0 with ⟨b, K, pre, rest, q1, q2, q3, q4, q5, q6, q7⟩ | ⟨q1, q2⟩
      · refine .inl ⟨b, K, pre.take (xs.length * C.sz E), pre.drop (xs.length * C.sz E) ++ rest, q1, by rw [← List.append_assoc, List.take_append_drop]; exact q2, q3, fun N ρ => ?_, by rw [← List.append_assoc, List.take_append_drop]; exact q5, q6, fun hf => ?_⟩
        · have := (q4 N ρ).take (xs.length * C.sz E)
          rw [enc_take, List.take_left] at this
          exact this
        · obtain ⟨ws, hws⟩ := q7 hf
          refine ⟨zs ++ ws, fun N ρ => ?_⟩
          have := (q4 N ρ).drop (xs.length * C.sz E)
          rw [enc_drop, List.drop_left] at this
          rw [List.flatMap_append]
          exact this.app (hws N ρ)
      · exact .inr ⟨q1, (List.append_eq_nil_iff.1 q2).1⟩
    · exact H.it j x hx
  · rcases get_set hx with ⟨e1, e2, _⟩ | ⟨_, hx2⟩ <;> rcases get_set hy with ⟨e3, e4, _⟩ | ⟨_, hy2⟩
    · omega
    · subst e1; exact H.dist j k _ y c hi hy2 rfl ay bx by_
    · subst e3; exact H.dist j k x _ c hx2 hi ax rfl bx by_
    · exact H.dist j k x y c hx2 hy2 ax ay bx by_
  · rcases get_set hx with ⟨e1, e2, _⟩ | ⟨_, hx⟩
    · subst e1; exact R.born c ⟨j, _, hi, rfl, bx⟩
    · exact R.born c ⟨j, x, hx, ax, bx⟩
theorem set_get_ {α : Type} {l : List α} {i : Nat} {x : α} (hi : l[i]? = some x) : l.set i x = l := by
  apply List.ext_getElem?
  intro j
  rw [List.getElem?_set]
  split
  · rename_i e
    subst e
    rw [hi, if_pos (lt_of_get hi)]
  · rfl
theorem exec_app {ox oy : Operand} {a b : AV} {K : AV → St → Prop}
    (hrun : ∀ w Z, HeapOk w σ Z → Valid w (σ.free Z) a → Valid w (σ.free Z) b → ∃ r σ' w', (Builtin.append_ #[t, t'] ty #[a.val, b.val]).run P w = .ok r.val w' ∧ K r σ' ∧ HeapOk w' σ' Z ∧ Valid w' (σ'.free Z) r ∧ Grow w σ w' σ') :
    aVal P ⟨d, .call ⟨.builtin .append, #[ox, oy], #[t, t']⟩, ty, pos, af, g⟩ [a, b] σ K := by
  refine .inr ⟨rfl, fun ρ hρ w Z hH hV => ?_⟩
  have hρ' := hρ
  simp [Op.operands, Call.operands] at hρ'
  obtain ⟨r, σ', w', h1, h2, h3, h4, h5⟩ := hrun w Z hH (hV a (by simp)) (hV b (by simp))
  refine ⟨r, σ', w', .inl ?_, h2, h3, h4, h5⟩
  simp [execOp, resolve, invoke, builtin, hρ', h1]
theorem valid_raw {w : World} {B : Nat → Nat → Prop} (v : Value) : Valid w B (.raw v) := by unfold Valid; trivial
theorem valid_nil_ {w : World} {B : Nat → Nat → Prop} : Valid w B (.lst none 0 0 []) := by
  unfold Valid
  exact ⟨Nat.le_refl _, fun _ => ⟨rfl, rfl, rfl⟩, fun ad had => by cases had⟩
theorem as_xsrc {E i lo n : Nat} {co : Option Nat} {e : TypeId} {kp : Bool} {xs : List (T E)} (hi : h[i]? = some (.arr e E kp xs)) (hl : lo + n ≤ xs.length) : xsrc C E h (.as E i lo n co) some = some ((xs.drop lo).take n) := by
  unfold xsrc
  simp [hi, hl]
/-- A new array, by appending. -/
theorem app_new {E n c : Nat} {e : TypeId} (kp : Bool) {sz by_ : Nat} {zv : Value} {a b : AV} {olds ys : List (T E)} {cells news : List AV} {w : World} {Z : Nat → Prop} (H : Hp C ρ h σ) (hH : HeapOk w σ Z) (hV1 : Valid w (σ.free Z) a) (hV2 : Valid w (σ.free Z) b)
    (he : sliceA P t = some e) (hsz : sizeA P e = some sz) (hz : zeroA P e = some zv) (hby : bytesA P e = some by_) (hzs : zv.cells.size = sz) (e1 : sz = C.sz E) (hfu : fullOk C E sz zv = true)
    (srcx : Src σ sz a n cells) (hxs : ∀ N ρ, SVs C N ρ (olds.flatMap (C.enc E)) cells) {B : Option Addr} (ha : a.val = .slice B n c) (hB : B = none → c = 0) (src : Src σ sz b ys.length news) (hys : ∀ N ρ, SVs C N ρ (ys.flatMap (C.enc E)) news) (hg : c < n + ys.length) (hnc : n ≤ c) (h63 : n + ys.length ≤ 140737488355328) (hb : (n + ys.length) * by_ ≤ 140737488355328) :
    ∃ r σ' w' ρ', (Builtin.append_ #[t, t] ty #[a.val, b.val]).run P w = .ok r.val w' ∧ HeapOk w' σ' Z ∧ Valid w' (σ'.free Z) r ∧ Grow w σ w' σ' ∧ (∀ N, h.length < N → SV C N ρ' (.as E h.length 0 (n + ys.length) none) r) ∧ Hp C ρ' (h ++ [.arr e E kp (olds ++ ys)]) σ' ∧ Rel U ρ h σ ρ' (h ++ [.arr e E kp (olds ++ ys)]) σ' := by
  have hpos := C.pos E
  obtain ⟨cap, w', rest, r0, r1, r2, r3, r4, f1, f2, f3, f4⟩ := append_grow_ (ty := ty) hH hV1 hV2 he hsz hz hby hzs (by omega) srcx ha hB src hg hnc (by unfold maxLen; omega) hb
  obtain ⟨g1, g2⟩ := H.newArr (U := U) kp f1 f2 e (E := E) (K := cap) (xs := olds ++ ys) (pre := cells ++ news) (rest := rest) (fun N ρ => by rw [List.flatMap_append]; exact (hxs N ρ).app (hys N ρ)) (by rw [r4, e1]) r3 (fun hf => by
    obtain ⟨zt, hzt⟩ := fullOk_sound hfu hf
    exact ⟨_, fun N ρ => by rw [r0, hzs]; exact hzt _ N ρ⟩)
  refine ⟨.raw (.slice (some ⟨w.heap.size, 0, none⟩) (n + ys.length) cap), _, w', _, by rw [r1]; simp, f3, valid_raw _, f4, fun N hN => ?_, g1, g2⟩
  exact sv_as.2 (.inl ⟨_, _, rfl, hN, r2, r3, h63, ⟨w.heap.size, by rw [Nat.zero_add]; exact rup_same _ _ _, fun _ => by rw [Nat.zero_mul]⟩, fun c' hc => by cases hc⟩)
theorem snd_apA {x y : XV T} {ox oy : Operand} (hm : arrMode C x y = true) (hU0 : ∀ E i lo n co, x = .as E i lo n co → U i) (hk : xapA C P t x y h k = some z) : Sound C P U ⟨d, .call ⟨.builtin .append, #[ox, oy], #[t, t]⟩, ty, pos, af, g⟩ [x, y] h k z := by
  unfold xapA at hk
  split at hk
  · cases hk
  rename_i e he
  split at hk
  rotate_left
  · cases hk
  rename_i sz zv by_ hsz hz hby
  split at hk
  rotate_left
  · cases hk
  rename_i hzs
  have hzs := Nat.eq_of_beq_eq_true hzs
  split at hk
  · -- an array
    rename_i E i lo n co
    have hU := hU0 _ _ _ _ _ rfl
    split at hk
    rotate_left
    · cases hk
    rename_i e' E' kp xs hi
    split at hk
    rotate_left
    · cases hk
    rename_i hc
    simp only [Bool.and_eq_true] at hc
    obtain ⟨⟨⟨c1, c2⟩, e1⟩, hfu⟩ := hc
    have c1 := Nat.eq_of_beq_eq_true c1
    have c2 := Nat.eq_of_beq_eq_true c2
    have e1 := Nat.eq_of_beq_eq_true e1
    subst c1 c2
    obtain ⟨ys, hk2, hsrc⟩ := xsrc_sound hk
    clear hk
    have hk := hk2
    clear hk2
    split at hk
    rotate_left
    · cases hk
    rename_i hroom
    obtain ⟨b1, b2, b3⟩ := hroom
    have hpos := C.pos E
    obtain ⟨xn, hxn, hsrcx⟩ := xsrc_sound (as_xsrc (C := C) (co := co) hi b3)
    injection hxn with hxn
    subst hxn
    have hxl : ((xs.drop lo).take n).length = n := by rw [List.length_take, List.length_drop]; omega
    cases co with
    | some c0 =>
      dsimp only at hk
      split at hk
      · rename_i hfit
        rw [hforce_eq] at hk
        refine ⟨_, _, hk, fun ρ σ as_ hs H => ?_⟩
        obtain ⟨a, b, rfl, h3, h4⟩ := svs2.1 hs
        obtain ⟨news, src, hys⟩ := hsrc ρ σ b h4 H
        refine exec_app fun w Z hH hV1 hV2 => ?_
        rcases sv_as.1 h3 with ⟨ad, c, rfl, hA⟩ | ⟨rfl, hn0, hiN, hρi, hco⟩
        · obtain ⟨bb, q1, q2⟩ := hA.at_
          obtain ⟨pre, rest, hb2, hb3, hb4, hb5, hb6⟩ := H.arrAt hi q1
          have hcc := hA.cap c0 rfl
          subst hcc
          rw [← e1] at src
          obtain ⟨w', r1, r2, r3⟩ := append_room_ (ty := ty) (lo := lo) (n := n) hH hV2 he hsz (by omega) hb2 (by rw [hb5, e1]; exact Nat.le_refl _) (by rw [e1]; exact q2) src hfit
          rw [e1] at r2 r3
          obtain ⟨g1, g2⟩ := H.spliceArr hU hi q1 hb2 b3 hys (by omega)
          refine ⟨.raw (.slice (some ad) (n + ys.length) c), _, w', by simpa using r1, ⟨ρ, sv_as.2 (.inl ⟨_, _, rfl, by rw [List.length_set]; exact hA.lt, hfit, hA.max, b1, ⟨bb, q1, q2⟩, hA.cap⟩), g1, g2⟩, r2, valid_raw _, r3⟩
        · subst hn0
          have hc0 := hco c0 rfl
          have hm0 : ys = [] := List.eq_nil_of_length_eq_zero (by omega)
          subst hm0
          have hxs : xs = [] := by
            rcases H.it i _ hi with ⟨b', K, pre, rest, q1, _⟩ | ⟨_, q⟩
            · rw [hρi] at q1; cases q1
            · exact q
          subst hxs
          obtain ⟨A', c', hy, hA'⟩ := src.at_
          obtain ⟨ii, hii, hsi⟩ := infoA hsz
          refine ⟨.lst none 0 0 [], σ, w, ?_, ⟨ρ, ?_, ?_, ?_⟩, hH, valid_nil_, Grow.refl _ _⟩
          · rw [hy]
            have hf := run_first_none_ (P := P) (w := w) (size := ii.size) (n := 0) (len := 0) (cap := c') rfl A'
            simp [Builtin.append_, run_underlying (run_slice' he), sizeOf, typeInfo, hii, Builtin.lenOf, hf]
          · exact sv_as.2 (.inr ⟨rfl, by simp, by rw [List.length_set]; exact hiN, hρi, hco⟩)
          · have : h.set i (.arr e' E kp (List.take (lo + 0) [] ++ [] ++ List.drop (lo + 0 + ([] : List (T E)).length) [])) = h := by
              simp only [List.take_nil, List.drop_nil, List.append_nil]
              exact set_get_ hi
            rw [this]; exact H
          · have : h.set i (.arr e' E kp (List.take (lo + 0) [] ++ [] ++ List.drop (lo + 0 + ([] : List (T E)).length) [])) = h := by
              simp only [List.take_nil, List.drop_nil, List.append_nil]
              exact set_get_ hi
            rw [this]; exact .refl _ _ _ _
      · rename_i hfit
        rw [hforce_eq] at hk
        refine ⟨_, _, hk, fun ρ σ as_ hs H => ?_⟩
        obtain ⟨a, b, rfl, h3, h4⟩ := svs2.1 hs
        obtain ⟨news, src, hys⟩ := hsrc ρ σ b h4 H
        obtain ⟨cells, srcx, hxs⟩ := hsrcx ρ σ a h3 H
        rw [hxl] at srcx
        rw [← e1] at src srcx
        refine exec_app fun w Z hH hV1 hV2 => ?_
        obtain ⟨B, c, ha, hB, hcc, hnc⟩ : ∃ B c, a.val = .slice B n c ∧ (B = none → c = 0) ∧ c = c0 ∧ n ≤ c := by
          rcases sv_as.1 h3 with ⟨ad, c, rfl, hA⟩ | ⟨rfl, hn0, hiN, hρi, hco⟩
          · exact ⟨some ad, c, by simp, fun e => (by cases e), hA.cap c0 rfl, hA.le⟩
          · exact ⟨none, 0, by simp [hn0], fun _ => rfl, (hco c0 rfl).symm, by omega⟩
        subst hcc
        obtain ⟨r, σ', w', ρ', r1, r2, r3, r4, r5, r6, r7⟩ := app_new (U := U) (ty := ty) kp H hH hV1 hV2 he hsz hz hby hzs e1 hfu srcx hxs ha hB src hys (by omega) hnc b1 b2
        exact ⟨r, σ', w', r1, ⟨ρ', r5 _ (by simp), r6, r7⟩, r2, r3, r4⟩
    | none =>
      dsimp only at hk
      split at hk
      rotate_left
      · cases hk
      rename_i hlo
      have hlo := Nat.eq_of_beq_eq_true hlo
      subst hlo
      rw [hforce_eq] at hk
      rw [List.drop_zero] at hsrcx hxl
      refine ⟨_, _, hk, fun ρ σ as_ hs H => ?_⟩
      obtain ⟨a, b, rfl, h3, h4⟩ := svs2.1 hs
      obtain ⟨news, src, hys⟩ := hsrc ρ σ b h4 H
      obtain ⟨cells, srcx, hxs⟩ := hsrcx ρ σ a h3 H
      rw [hxl] at srcx
      rw [← e1] at src srcx
      have hil := lt_of_get hi
      refine exec_app fun w Z hH hV1 hV2 => ?_
      obtain ⟨B, c, ha, hB, hnc⟩ : ∃ B c, a.val = .slice B n c ∧ (B = none → c = 0) ∧ n ≤ c := by
        rcases sv_as.1 h3 with ⟨ad, c, rfl, hA⟩ | ⟨rfl, hn0, hiN, hρi, hco⟩
        · exact ⟨some ad, c, by simp, fun e => (by cases e), hA.le⟩
        · exact ⟨none, 0, by simp [hn0], fun _ => rfl, by omega⟩
      by_cases hfit : n + ys.length ≤ c
      · rcases sv_as.1 h3 with ⟨ad, c', rfl, hA⟩ | ⟨rfl, hn0, hiN, hρi, hco⟩
        · simp only [AV.val_raw, Value.slice.injEq] at ha
          obtain ⟨rfl, _, rfl⟩ := ha
          obtain ⟨bb, q1, q2⟩ := hA.at_
          obtain ⟨pre, rest, hb2, hb3, hb4, hb5, hb6⟩ := H.arrAt hi q1
          obtain ⟨w', r1, r2, r3⟩ := append_room_ (ty := ty) (lo := 0) (n := n) hH hV2 he hsz (by omega) hb2 (by rw [hb5, e1]; exact Nat.le_refl _) (by rw [e1]; exact q2) src hfit
          rw [e1] at r2 r3
          rw [Nat.zero_add] at r2 r3 b3 q1
          obtain ⟨g1, g2⟩ := H.spliceArr hU hi q1 hb2 b3 hys (by omega)
          obtain ⟨g3, g4⟩ := g1.cutArr g2 (i := i) (e := e') (E := E) (kp := kp) (xs := xs.take n ++ ys) (zs := xs.drop (n + ys.length)) (by rw [List.getElem?_set_self hil])
          rw [List.set_set] at g3 g4
          obtain ⟨g5, g6⟩ := g3.move g4 (i := i) (by rw [List.getElem?_set_self hil])
          rw [List.set_set, List.length_set] at g5 g6
          refine ⟨.raw (.slice (some ad) (n + ys.length) c'), _, w', by simpa using r1, ⟨_, sv_as.2 (.inl ⟨_, _, rfl, by simp, hfit, hA.max, b1, ⟨bb, by rw [rup_same, Nat.zero_add]; exact q1, q2⟩, fun c'' hc => by cases hc⟩), g5, g6⟩, r2, valid_raw _, r3⟩
        · subst hn0
          simp only [AV.val_lst, Value.slice.injEq] at ha
          obtain ⟨rfl, _, rfl⟩ := ha
          have hm0 : ys = [] := List.eq_nil_of_length_eq_zero (by omega)
          subst hm0
          have hxs : xs = [] := by
            rcases H.it i _ hi with ⟨b', K, pre, rest, q1, _⟩ | ⟨_, q⟩
            · rw [hρi] at q1; cases q1
            · exact q
          subst hxs
          obtain ⟨A', c', hy, hA'⟩ := src.at_
          obtain ⟨ii, hii, hsi⟩ := infoA hsz
          obtain ⟨g5, g6⟩ := H.move (.refl U ρ h σ) hi
          refine ⟨.lst none 0 0 [], σ, w, ?_, ⟨_, ?_, g5, g6⟩, hH, valid_nil_, Grow.refl _ _⟩
          · rw [hy]
            have hf := run_first_none_ (P := P) (w := w) (size := ii.size) (n := 0) (len := 0) (cap := c') rfl A'
            simp [Builtin.append_, run_underlying (run_slice' he), sizeOf, typeInfo, hii, Builtin.lenOf, hf]
          · exact sv_as.2 (.inr ⟨rfl, by simp, by simp, by rw [rup_same]; exact hρi, fun c' hc => by cases hc⟩)
      · obtain ⟨r, σ', w', ρ', r1, r2, r3, r4, r5, r6, r7⟩ := app_new (U := U) (ty := ty) kp H hH hV1 hV2 he hsz hz hby hzs e1 hfu srcx hxs ha hB src hys (by omega) hnc b1 b2
        obtain ⟨g1, g2⟩ := r6.kill r7 i
        rw [List.set_append_left _ _ hil] at g1 g2
        exact ⟨r, σ', w', r1, ⟨ρ', r5 _ (by simp), g1, g2⟩, r2, r3, r4⟩
  · -- nil
    split at hk
    rotate_left
    · cases hk
    rename_i E ys ow
    split at hk
    rotate_left
    · cases hk
    rename_i e1
    simp only [Bool.and_eq_true] at e1
    have hfu := e1.2
    have e1 := Nat.eq_of_beq_eq_true e1.1
    split at hk
    rotate_left
    · cases hk
    rename_i hroom
    obtain ⟨b1, b2⟩ := hroom
    rw [hforce_eq] at hk
    refine ⟨_, _, hk, fun ρ σ as_ hs H => ?_⟩
    obtain ⟨a, b, rfl, h3, h4⟩ := svs2.1 hs
    rw [sv_nil.1 h3]
    obtain ⟨ys', hys', hsrc⟩ := xsrc_sound (C := C) (h := h) (E := E) (v := .sl E ys ow) (k := some) (z := ys) (by unfold xsrc; simp)
    injection hys' with hys'
    subst hys'
    obtain ⟨news, src, hys⟩ := hsrc ρ σ b h4 H
    rw [← e1] at src
    have hpos := C.pos E
    refine exec_app fun w Z hH hV1 hV2 => ?_
    by_cases hm0 : ys'.length = 0
    · have hm0 : ys' = [] := List.eq_nil_of_length_eq_zero hm0
      subst hm0
      obtain ⟨A', c', hy, hA'⟩ := src.at_
      obtain ⟨ii, hii, hsi⟩ := infoA hsz
      obtain ⟨g5, g6⟩ := H.newNil (U := U) e E false
      refine ⟨.lst none 0 0 [], σ, w, ?_, ⟨_, ?_, g5, g6⟩, hH, valid_nil_, Grow.refl _ _⟩
      · rw [hy]
        have hf := run_first_none_ (P := P) (w := w) (size := ii.size) (n := 0) (len := 0) (cap := c') rfl A'
        simp [Builtin.append_, run_underlying (run_slice' he), sizeOf, typeInfo, hii, Builtin.lenOf, hf]
      · exact sv_as.2 (.inr ⟨rfl, by simp, by simp, rup_same _ _ _, fun c' hc => by cases hc⟩)
    · obtain ⟨r, σ', w', ρ', r1, r2, r3, r4, r5, r6, r7⟩ := app_new (U := U) (ty := ty) (n := 0) (c := 0) (olds := []) (cells := []) false H hH valid_nil_ hV2 he hsz hz hby hzs e1 hfu src_nil (fun _ _ => .none) (B := none) (by simp) (fun _ => rfl) src hys (by omega) (Nat.le_refl _) (by omega) (by rw [Nat.zero_add]; exact b2)
      rw [Nat.zero_add] at r5
      exact ⟨r, σ', w', r1, ⟨ρ', r5 _ (by simp), r6, r7⟩, r2, r3, r4⟩
  · cases hk
end
end Go.Proofs.YtlmmpfbdgiokmaaGreat
