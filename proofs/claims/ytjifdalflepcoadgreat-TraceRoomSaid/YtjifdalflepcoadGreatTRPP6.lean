/-
  Parts of the proof, merged: what the functions do, and plain laws.
-/
import Derived.Test.YtjifdalflepcoadGreatTRPP3
set_option maxHeartbeats 16000000
set_option maxRecDepth 100000
set_option linter.unusedVariables false
set_option linter.unusedSimpArgs false
namespace Go.Proofs.YtjifdalflepcoadGreat
section
open Go.RowKit
section
variable {w w':World} {O O':Wo} {W W':Wd}
theorem bh.oV {h:WH} {rg wt:List (Int × Int)} (H:bh w h O) (t:tP w h.ps h.rv h.wv w' rg wt) (hok:Wo.ok { O with rg:=rg,wt:=wt }):gd w h w' { O with rg:=rg,wt:=wt }:=by
 obtain ⟨rv',wv',hs,k,o⟩:=t;have n1:∀ {b:Nat} {c:List Value} {T:TypeId},ak w b c T->T≠84->T≠119->¬ aG h.ps h.rv h.wv b:=λhb h1 h2=>H.vY hb h1 h2;refine ⟨⟨h.p,h.pa,h.g,h.pc,h.cb,h.ps,rv',wv',h.ro⟩,⟨k.au H.hp (n1 H.hp (by decide) (by decide)),H.ha.ab k (n1 H.ha.hp (by decide) (by decide)) (n1 H.ha.hg (by decide) (by decide)),H.hc.ab k (n1 H.hc.hp (by decide) (by decide)) (n1 H.hc.hq (by decide) (by decide)),hs,H.hr.ab k (λb hb=>?_),H.ap,hok⟩,rfl,k.mono (λb _ hb=>.inr (.inr (.inr (.inl hb)))),λb hb=>?_⟩
 ·obtain ⟨_,c,hc⟩:=H.hr.own hb;exact n1 hc (by decide) (by decide)
 ·rcases hb with hb | hb | hb | hb | hb
  ·exact .inl (.inl hb)
  ·exact .inl (.inr (.inl hb))
  ·exact .inl (.inr (.inr (.inl hb)))
  ·exact (o b hb).imp (λh=>.inr (.inr (.inr (.inl h)))) id
  ·exact .inl (.inr (.inr (.inr (.inr hb))))
end
end
end Go.Proofs.YtjifdalflepcoadGreat
