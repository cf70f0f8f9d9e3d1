/- slices.AppendSeq over slices.Values, at texts: its contract. -/
import Derived.Test.YtaihdjknneiciaaGreatTb
import Derived.Test.YtaihdjknneiciaaGreatNw
import Derived.Test.YtaihdjknneiciaaGreatSeqS
namespace Go.Proofs.YtaihdjknneiciaaGreat
open Go.RowKit
set_option linter.unusedSimpArgs false
set_option maxRecDepth 100000
set_option linter.unusedVariables false
theorem ZvZ {N : Nat} {ρ : Nat -> AV} : ∀ {xs : List (List UInt8)} {cells : List AV}, SVs CT N ρ (xs.flatMap (CT.enc 2)) cells -> cells = xs.map fun s => AV.raw (SeqS.tx s)
 | [], cells, h => Zbq.1 h
 | x :: xs, cells, h => by
  change SVs CT N ρ (.str x :: xs.flatMap (CT.enc 2)) cells at h
  obtain ⟨a, bs, rfl, h1, h2⟩ := h.to
  rw [ZbM.1 h1, ZvZ h2]
  rfl
theorem ZA7 {N : Nat} {ρ : Nat -> AV} : ∀ (xs : List (List UInt8)), SVs CT N ρ (xs.flatMap (CT.enc 2)) (xs.map fun s => AV.raw (SeqS.tx s))
 | [] => .none
 | x :: xs => .str x (ZA7 xs)
theorem Zuh : Tr CT Tryz.prog (fun _ => True) 269 [.nil, .clo 268 [0]] [.obj 84 [.sl 2 ([] : List (List UInt8)) none]] (.as 2 1 0 0 none) [.obj 84 [.sl 2 ([] : List (List UInt8)) none], .arr 9 2 true []] := by
 intro ρ σ vs hs H
 obtain ⟨a, b, rfl, h1, h2⟩ := Zjh.1 hs
 rw [ZdH.1 h1]
 obtain ⟨bs, rfl, hp⟩ := Zjf.1 h2
 obtain ⟨Bs, rfl, hρ⟩ : ∃ Bs, bs = [Bs] /\ ρ 0 = ptr Bs 0 := by
  match bs, hp with
  | [Bs], hp => exact ⟨Bs, rfl, hp.1.2⟩
 obtain ⟨B', acs, e1, e2, e3, e4⟩ := H.it 0 _ rfl
 rw [hρ] at e1
 have hB := Zyu e1
 subst hB
 obtain ⟨c, rfl, e5⟩ := Zf6.1 e4
 obtain ⟨A, n, cells, rest, rfl, l1, l2, l3, l4, l5⟩ := ZeW.1 e5
 refine fun w Z hH hV => .inl ⟨by kernel_rfl, ?_⟩
 obtain ⟨u1, u2, u3⟩ := hH.own _ _ _ e2
 have hcell : w.cell? ⟨Bs, 0, none⟩ = some (.slice A 0 n) := by
  simp [World.cell?, u2]
 have htx : SeqS.Texts w.heap.size w (.slice A 0 n) [] := by
  cases A with
  | none => obtain ⟨_, rfl⟩ := l4 rfl; exact .inl ⟨rfl, rfl⟩
  | some ad => exact .inr ⟨ad, n, rfl, (fun h => absurd rfl h), fun j hj => absurd hj (Nat.not_lt_zero j)⟩
 have hcall := callsIn_wide.1 (SeqS.appendSeq_in Fence.wide 3 trivial trivial rfl (by omega) Bs _ [] (by simp) w (hH.used _ e3) hcell htx)
 refine Calls.mono hcall ?_
 rintro e w' ⟨v, rfl, hrow, hnil, hbel⟩
 obtain rfl := hnil.2 rfl
 obtain ⟨g1, g2⟩ := H.newNil (U := fun _ => True) 9 2 true
 exact ⟨.lst none 0 0 [], σ, rfl, ⟨_, Zbv.2 (.inr ⟨rfl, rfl, by simp, Zav _ _ _, fun c' hc => by cases hc⟩), g1, g2⟩, hH.below_same hbel, Zcm, Grow.below_same hH hbel⟩
theorem Zv0 (xs : List (List UInt8)) (h0 : xs.length ≠ 0) (hl : xs.length <= 8796093022208) : Tr CT Tryz.prog (fun _ => True) 269 [.nil, .clo 268 [0]] [.obj 84 [.sl 2 xs none]] (.as 2 1 0 xs.length none) [.obj 84 [.sl 2 xs none], .arr 9 2 true xs] := by
 intro ρ σ vs hs H
 obtain ⟨a, b, rfl, h1, h2⟩ := Zjh.1 hs
 rw [ZdH.1 h1]
 obtain ⟨bs, rfl, hp⟩ := Zjf.1 h2
 obtain ⟨Bs, rfl, hρ⟩ : ∃ Bs, bs = [Bs] /\ ρ 0 = ptr Bs 0 := by
  match bs, hp with
  | [Bs], hp => exact ⟨Bs, rfl, hp.1.2⟩
 obtain ⟨B', acs, e1, e2, e3, e4⟩ := H.it 0 _ rfl
 rw [hρ] at e1
 have hB := Zyu e1
 subst hB
 obtain ⟨c, rfl, e5⟩ := Zf6.1 e4
 obtain ⟨A, n, cells, rest, rfl, l1, l2, l3, l4, l5⟩ := ZeW.1 e5
 cases A with
 | none => exact absurd (l4 rfl).1 h0
 | some ad =>
 have hcells := ZvZ l5
 refine fun w Z hH hV => .inl ⟨by kernel_rfl, ?_⟩
 obtain ⟨u1, u2, u3⟩ := hH.own _ _ _ e2
 have hval := u3 _ (List.mem_singleton.2 rfl)
 unfold Zaj at hval
 have hat := hval.2.2 ad rfl
 have hget : ∀ j, j < xs.length -> w.cell? (ad.add j) = some (SeqS.tx (xs[j]?.getD [])) /\ σ.used ad.block := fun j hj => by
  have hd : (cells ++ rest)[j]? = some (AV.raw (SeqS.tx xs[j])) := by
   rw [List.getElem?_append_left (by rw [hcells]; simpa using hj), hcells, List.getElem?_map, List.getElem?_eq_getElem hj]
   rfl
  have := hat.get hd
  rw [Nat.zero_add] at this
  refine ⟨?_, this.2.1.2.1⟩
  rw [this.1, List.getElem?_eq_getElem hj]
  rfl
 have hcell : w.cell? ⟨Bs, 0, none⟩ = some (.slice (some ad) xs.length n) := by
  simp [World.cell?, u2]
 have htx : SeqS.Texts w.heap.size w (.slice (some ad) xs.length n) xs := .inr ⟨ad, n, rfl, (fun _ => hH.used _ (hget 0 (by omega)).2), fun j hj => (hget j hj).1⟩
 have hcall := callsIn_wide.1 (SeqS.appendSeq_in Fence.wide 3 trivial trivial rfl (by omega) Bs _ xs hl w (hH.used _ e3) hcell htx)
 refine Calls.mono hcall ?_
 rintro e w' ⟨v, rfl, hrow, hnil, hbel⟩
 rcases hrow.2 with ⟨rfl, hz⟩ | ⟨g, cap, cur, rfl, hg, hgh, r1, r2, r3, r4⟩
 ·exact absurd hz h0
 obtain ⟨f1, f2⟩ := hH.fresh_of hg
 have hcur : ((xs.map fun s => AV.raw (SeqS.tx s)) ++ (cur.toList.drop xs.length).map AV.raw).map AV.val = cur.toList := by
  rw [Nat.mul_one] at r4
  conv => rhs; rw [<- List.take_append_drop xs.length cur.toList, r4]
  simp [Function.comp_def]
 have hsz1 : CT.sz 2 = 1 := rfl
 have hnew := H.newArr (U := fun _ => True) true f1 f2 9 (E := 2) (K := cap) (xs := xs) (pre := xs.map fun s => AV.raw (SeqS.tx s)) (rest := (cur.toList.drop xs.length).map AV.raw) (fun N' ρ' => ZA7 xs) (by
  have := congrArg List.length hcur
  rw [List.length_map] at this
  rw [this, hsz1, Array.length_toList, r3]) r2 (fun h => by change false = true at h; cases h)
 obtain ⟨g1, g2⟩ := hnew
 refine ⟨.raw (.slice (some ⟨g, 0, none⟩) xs.length cap), _, rfl, ⟨_, ?_, g1, g2⟩, hH.new_own hbel hg 9 _ (by rw [hcur]; exact hgh) ?_, by unfold Zaj; trivial, Grow.below hH hbel hg _⟩
 ·refine Zbv.2 (.inl ⟨_, _, rfl, by simp, r1, r2, l3, ⟨g, by rw [Nat.zero_add]; exact Zav _ _ _, fun _ => by simp⟩, fun c' hc => by cases hc⟩)
 ·intro c hc
  rcases List.mem_append.1 hc with hc | hc
  ·obtain ⟨s, _, rfl⟩ := List.mem_map.1 hc; exact ⟨_, rfl⟩
  ·obtain ⟨s, _, rfl⟩ := List.mem_map.1 hc; exact ⟨_, rfl⟩
end Go.Proofs.YtaihdjknneiciaaGreat
