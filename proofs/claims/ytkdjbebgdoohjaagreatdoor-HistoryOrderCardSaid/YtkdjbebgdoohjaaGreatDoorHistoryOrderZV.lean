/- The proof, part 48 of 50. -/
import Derived.Test.YtkdjbebgdoohjaaGreatDoorHistoryOrderZT
set_option linter.all false
namespace Go.Proofs.YtkdjbebgdoohjaaGreatDoor.Ls
open Eng Ob Pk
set_option maxRecDepth 10000
theorem Uc (fs:List Fi) (hl:fs.length<=10000) (hc:∀f∈fs,f.1.length<=140737488351232) (hd:∀f∈fs,f.2.length<=100000) :
    aw Tryz.prog 12 [.ro 2 (aQ fs)] (openA (gj (gi fs))):=by
 have hun:=Dm fs dy hl (by decide) (λf hf=>by have:=hc f hf;omega);rw[RZ]at hun;have hul:=qn dy (gi fs);have hnl:=CL fs;refine r13open_gen hun (λp hq=>?_) ZG (λq d h=>pd (λf hf=>hd f (wM f fs hf)) h) (λq=>?_)
 ·obtain⟨h1,f,hf,h2⟩:=x9 hq;exact⟨by rw[<-h2];exact hc f (wM f fs hf),uE h1⟩
 ·have:=Dk fs q ZG;rw[<-CJ]at this;exact this
end Go.Proofs.YtkdjbebgdoohjaaGreatDoor.Ls
